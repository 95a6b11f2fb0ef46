/- For the seat: encoders and decoders, there and back. -/
import Derived.Test.YtaiecnepchndkaaDoorWidDef
namespace Go.Proofs.YtaiecnepchndkaaDoor
open Go.Sx Go.ChangeShapes Go.WideShapes Go.RowKit Go.Joins Go.Deep

/-- An encoder's answer. -/
def Enc (E : Nat) (x : Fields) (it : Bool) (hs : List Int) (ok : Bool) : Prop :=
  ∀ (K : Nat → Prop) (w0 : World) (ι : Nm) (w : World), Inv K w0 ι w → Calls Tryd.prog E #[x.val, .bool it] w fun e w' => e = .returned (.tuple (hs.map (Value.int .i64) ++ [Value.bool ok]).toArray) ∧ Inv K w0 ι w'
/-- A decoder gives an instruction. -/
def Dec (D : Nat) (hs : List Int) (it : Bool) (x : Fields) : Prop :=
  ∀ (K : Nat → Prop) (w0 : World) (ι : Nm) (w : World), Inv K w0 ι w → Calls Tryd.prog D (hs.map (Value.int .i64) ++ [Value.bool it]).toArray w fun e w' => e = .returned (.tuple #[x.val, .bool true]) ∧ Inv K w0 ι w'
structure EncP (E D n : Nat) (x : Fields) (it : Bool) (p : List Int × Bool) : Prop where
  len : p.1.length = n
  has : ∀ a ∈ p.1, kHas .i64 a
  enc : Enc E x it p.1 p.2
  dec : p.2 = true → Dec D p.1 it x

namespace apt
def ins : SVal := argT (.var 0) (.var 1) (.var 3) (.var 5)
def it : SVal := .bool (.var 9)
end apt

theorem insOf_conc {ρ : Env} {y v : SVal} {o : Tm} (h : insOf y = some (v, o)) (ι : Nm) : y.conc ρ ι = .tuple #[v.conc ρ ι, .bool (o.den ρ).asBool] := by
  unfold insOf at h
  split at h
  · simp only [Option.some.injEq, Prod.mk.injEq] at h
    obtain ⟨rfl, rfl⟩ := h
    rfl
  · cases h

theorem encP_of {E D n : Nat} {x : Fields} (hx : x.Ok) (it : Bool)
    (h : ∃ (y : Res) (l : List Tm) (t : Tm), CallOk (envOf F2 (x.scsW it)) cx.globs cx.P E [apt.ins, apt.it] [] y ∧ answerOf y.v = some (l, t) ∧ l.length = n ∧
      ((t.den (envOf F2 (x.scsW it))).asBool = true → ∃ (y : Res) (v : SVal) (o : Tm), CallOk (envOf F2 (x.scsW it)) cx.globs cx.P D (l.map (.int .i64) ++ [apt.it]) [] y ∧ insOf y.v = some (v, o) ∧ (o.den (envOf F2 (x.scsW it))).asBool = true ∧ ∀ ι ι', v.conc (envOf F2 (x.scsW it)) ι = apt.ins.conc (envOf F2 (x.scsW it)) ι')) :
    ∃ p, EncP E D n x it p := by
  obtain ⟨y, l, t, hc, ha, hl, hd⟩ := h
  obtain ⟨a1, a2⟩ := answerOf_ok (ρ := envOf F2 (x.scsW it)) ha
  refine ⟨(l.map fun a => (a.den (envOf F2 (x.scsW it))).asInt, (t.den (envOf F2 (x.scsW it))).asBool), by simpa using hl, ?_, ?_, ?_⟩
  · intro a h
    obtain ⟨b, hb, rfl⟩ := List.mem_map.1 h
    exact inK_ok (scsW_ok hx it) .i64 b (a2 b hb)
  · intro K w0 ι w hI
    have := hc K w0 ι w (inv_env hI _) (by intro v hv; simp only [List.mem_cons, List.not_mem_nil, or_false] at hv; rcases hv with rfl | rfl <;> rfl)
    refine Calls.mono (R := _) (show Calls Tryd.prog E #[x.val, .bool it] w _ from this) ?_
    rintro e w' ⟨ι', _, _, H, _, _, rfl⟩
    refine ⟨?_, inv_of H⟩
    rw [a1 ι', List.map_map]
    rfl
  · intro ht
    obtain ⟨y2, v, o, hc2, hi, ho, hv⟩ := hd ht
    intro K w0 ι w hI
    have := hc2 K w0 ι w (inv_env hI _) (by
      intro v hv
      simp only [List.mem_append, List.mem_map, List.mem_cons, List.not_mem_nil, or_false] at hv
      rcases hv with ⟨u, _, rfl⟩ | rfl <;> rfl)
    have e : ((l.map (SVal.int .i64) ++ [apt.it]).map (·.conc (envOf F2 (x.scsW it)) ι)) = (l.map fun a => (a.den (envOf F2 (x.scsW it))).asInt).map (Value.int .i64) ++ [Value.bool it] := by
      rw [List.map_append, List.map_map, List.map_map]
      rfl
    rw [e] at this
    refine this.mono ?_
    rintro e w' ⟨ι', _, _, H, _, _, rfl⟩
    refine ⟨?_, inv_of H⟩
    rw [insOf_conc hi ι', ho, hv ι' ι']
    rfl

/-! ### The cases -/

/-- The number's twelve bits are there, and tell it. -/
def sgF : Sg := { defs := fun g => match Nat.beq g 901 with | true => some Chk.chk | false => none, ufs := [(910, [5], 10), (911, [5], 11), (920, [10], 5), (921, [10], 11)], pop := 900 }

theorem find_some {x : Int} (h : findB x = true) : valB (findI x) = true ∧ expI (findI x) = x := by
  unfold findB at h
  unfold findI
  cases hn : findN x with
  | none => rw [hn] at h; cases h
  | some n =>
    rw [findN_eq] at hn
    have := List.find?_some hn
    unfold hit at this
    rw [Bool.and_eq_true] at this
    exact ⟨this.1, eq_of_beq this.2⟩

theorem sgF_ok {x : Fields} (it : Bool) (hf : findB x.x5 = true) : sgF.Ok (envOf F2 (x.scsW it)) := by
  have s := sgL_ok (x := x) it
  obtain ⟨hv, he⟩ := find_some hf
  refine ⟨s.defs, ?_, s.pop⟩
  intro g xs y hm ss hss
  simp only [sgF, List.mem_cons, List.not_mem_nil, or_false, Prod.mk.injEq] at hm
  have one : ∀ i : Nat, ss.map Sc.asInt = [i].map (fun v => ((envOf F2 (x.scsW it)).v v).asInt) → ∃ s, ss = [s] ∧ s.asInt = ((envOf F2 (x.scsW it)).v i).asInt := by
    intro i h
    match ss, h with
    | [s], h => exact ⟨s, rfl, by simpa using h⟩
    | [], h => simp at h
    | _ :: _ :: _, h => simp at h
  rcases hm with ⟨rfl, rfl, rfl⟩ | ⟨rfl, rfl, rfl⟩ | ⟨rfl, rfl, rfl⟩ | ⟨rfl, rfl, rfl⟩
  · exact s.ufs 910 [5] 10 (by simp [wid.sgL]) ss hss
  · exact s.ufs 911 [5] 11 (by simp [wid.sgL]) ss hss
  · obtain ⟨s, rfl, hs⟩ := one 10 hss
    have hs : s.asInt = findI x.x5 := hs
    show Sc.int (expI s.asInt) = Sc.int x.x5
    rw [hs, he]
  · obtain ⟨s, rfl, hs⟩ := one 10 hss
    have hs : s.asInt = findI x.x5 := hs
    show Sc.bool (valB s.asInt) = Sc.bool (findB x.x5)
    rw [hs, hv, hf]

namespace apt
def nthN (k j : Nat) : Cas := (Cb.casesN k).getD j ⟨[], [], []⟩
noncomputable def nat (k j : Nat) : Bool := pxBoth wid.sgL (backTree cxs' (widS 34) 3000 27 20 1 ins it (wid.withOp k (nthN k j))) (wid.ek k)
def covN (k : Nat) : Bool := pxT wid.sgL (anyT ((Cb.casesN k).map Cas.cond)) (wid.ek k) (fun _ => true)
def nthW (k j : Nat) : Bool × Cas := (Cb.casesW k).getD j (false, ⟨[], [], []⟩)
def sgOf : Bool → Sg
  | true => sgF
  | false => wid.sgL
noncomputable def wat (k j : Nat) : Bool := pxBoth (sgOf (nthW k j).1) (backTree cxs' (widS 34) 3000 33 31 2 ins it (wid.withOp k (nthW k j).2)) (wid.ek k)
def covW (k : Nat) : Bool := pxT wid.sgL (anyT ((Cb.casesW k).map fun c => c.2.cond)) (wid.ek k) (fun _ => true)
/-- What such a case knows. -/
def tells (c : Bool × Cas) : Bool := !c.1 || (c.2.pre.contains (Cb.fnd (Cb.V 5)) && (c.2.pre.contains (Cb.le (Cb.num 0) (Cb.V 5)) && c.2.pre.contains (Cb.le (Cb.V 5) (Cb.num 4294967295))))
def tellsAll : Nat → Bool
  | 0 => true
  | n + 1 => (Cb.casesW (n + 1)).all tells && tellsAll n
set_option maxRecDepth 100000 in
theorem tells45 : tellsAll 45 = true := by kernel_rfl
theorem tells_get : ∀ n, tellsAll n = true → ∀ k, 1 ≤ k → k ≤ n → (Cb.casesW k).all tells = true
  | 0, _, k, h, h' => by omega
  | n + 1, hc, k, h, h' => by
    simp only [tellsAll, Bool.and_eq_true] at hc
    by_cases e : k = n + 1
    · subst e; exact hc.1
    · exact tells_get n hc.2 k h (by omega)
def cq : Cas := ⟨[wid.refused], [], [wid.refused]⟩
noncomputable def atq (E D n : Nat) (e : Kn) : Bool := pxBoth wid.sgL (backTree cxs' (widS 34) 3000 E D n ins it cq) e
end apt

theorem cq_cond {ρ : Env} (h : (wid.refused.den ρ).asBool = true) : (apt.cq.cond.den ρ).asBool = true := by
  show ((wid.refused.den ρ).asBool && true) = true
  rw [h]; rfl

theorem exN {x : Fields} (hx : x.Ok) (it : Bool) (hlo : apt.atq 27 20 1 wid.knLow = true) (hhi : apt.atq 27 20 1 wid.knHigh = true) (hcov : ∀ k : Nat, 1 ≤ k → k ≤ 45 → apt.covN k = true)
    (hgo : ∀ k : Nat, 1 ≤ k → k ≤ 45 → ∀ j : Nat, j < (Cb.casesN k).length → apt.nat k j = true) {K : Nat → Prop} {w0 : World} {ι : Nm} {w : World} (hI : Inv K w0 ι w) : ∃ p, EncP 27 20 1 x it p := by
  have Kn := knW_ok hx it
  have so := sgL_ok (x := x) it
  have hS := widS_ok awake08 (scsW_ok hx it) rfl
  by_cases h1 : x.x0 < 1
  · have S := Kn.tell (.le 0 0) (decide_eq_true (show x.x0 ≤ 0 by omega))
    exact encP_of hx it (back_ok cxsok' hS (widS_body body34) rfl rfl (cq_cond (pxT_ok so S wid.ref_low).1) so S hlo (inv_env hI _))
  by_cases h2 : 45 < x.x0
  · have S := Kn.tell (.le 0 45) (decide_eq_false (show ¬ x.x0 ≤ 45 by omega))
    exact encP_of hx it (back_ok cxsok' hS (widS_body body34) rfl rfl (cq_cond (pxT_ok so S wid.ref_high).1) so S hhi (inv_env hI _))
  obtain ⟨k, hk⟩ := Int.eq_ofNat_of_zero_le (show 0 ≤ x.x0 by omega)
  have S := Kn.tell (.pt 0 (Int.ofNat k)) (b := true) (decide_eq_true (show x.x0 = Int.ofNat k by rw [hk]; rfl))
  obtain ⟨c, hc, hcond⟩ := cas_cov so S (hcov k (by omega) (by omega))
  obtain ⟨j, hj, hjc⟩ := List.getElem_of_mem hc
  have hnth : apt.nthN k j = c := by simp only [apt.nthN, List.getD, List.getElem?_eq_getElem hj, Option.getD_some, hjc]
  have hgo' := hgo k (by omega) (by omega) j hj
  rw [apt.nat, hnth] at hgo'
  exact encP_of hx it (back_ok (c := wid.withOp k c) cxsok' hS (widS_body body34) rfl rfl hcond so S hgo' (inv_env hI _))

theorem exW {x : Fields} (hx : x.Ok) (it : Bool) (hlo : apt.atq 33 31 2 wid.knLow = true) (hhi : apt.atq 33 31 2 wid.knHigh = true) (hcov : ∀ k : Nat, 1 ≤ k → k ≤ 45 → apt.covW k = true)
    (hgo : ∀ k : Nat, 1 ≤ k → k ≤ 45 → ∀ j : Nat, j < (Cb.casesW k).length → apt.wat k j = true) {K : Nat → Prop} {w0 : World} {ι : Nm} {w : World} (hI : Inv K w0 ι w) : ∃ p, EncP 33 31 2 x it p := by
  have Kn := knW_ok hx it
  have so := sgL_ok (x := x) it
  have hS := widS_ok awake08 (scsW_ok hx it) rfl
  by_cases h1 : x.x0 < 1
  · have S := Kn.tell (.le 0 0) (decide_eq_true (show x.x0 ≤ 0 by omega))
    exact encP_of hx it (back_ok cxsok' hS (widS_body body34) rfl rfl (cq_cond (pxT_ok so S wid.ref_low).1) so S hlo (inv_env hI _))
  by_cases h2 : 45 < x.x0
  · have S := Kn.tell (.le 0 45) (decide_eq_false (show ¬ x.x0 ≤ 45 by omega))
    exact encP_of hx it (back_ok cxsok' hS (widS_body body34) rfl rfl (cq_cond (pxT_ok so S wid.ref_high).1) so S hhi (inv_env hI _))
  obtain ⟨k, hk⟩ := Int.eq_ofNat_of_zero_le (show 0 ≤ x.x0 by omega)
  have S := Kn.tell (.pt 0 (Int.ofNat k)) (b := true) (decide_eq_true (show x.x0 = Int.ofNat k by rw [hk]; rfl))
  obtain ⟨t, ht, hcond⟩ := anyT_den _ _ (pxT_ok so S (hcov k (by omega) (by omega))).1
  obtain ⟨c, hc, rfl⟩ := List.mem_map.1 ht
  obtain ⟨j, hj, hjc⟩ := List.getElem_of_mem hc
  have hnth : apt.nthW k j = c := by simp only [apt.nthW, List.getD, List.getElem?_eq_getElem hj, Option.getD_some, hjc]
  have hgo' := hgo k (by omega) (by omega) j hj
  rw [apt.wat, hnth] at hgo'
  cases hb : c.1 with
  | false =>
    rw [hb] at hgo'
    exact encP_of hx it (back_ok (c := wid.withOp k c.2) cxsok' hS (widS_body body34) rfl rfl hcond so S hgo' (inv_env hI _))
  | true =>
    rw [hb] at hgo'
    have tl := List.all_eq_true.1 (apt.tells_get 45 apt.tells45 k (by omega) (by omega)) c hc
    simp only [apt.tells, hb, Bool.not_true, Bool.false_or, Bool.and_eq_true, List.contains_iff_mem] at tl
    have hall := allT_den _ _ hcond
    have q1 : (decide ((0 : Int) ≤ x.x5)) = true := hall _ tl.2.1
    have q2 : (decide (x.x5 ≤ (4294967295 : Int))) = true := hall _ tl.2.2
    have q3 : findB (IntKind.u32.wrap x.x5) = true := hall _ tl.1
    have r1 := of_decide_eq_true q1
    have r2 := of_decide_eq_true q2
    have hw : IntKind.u32.wrap x.x5 = x.x5 := wrap_eq (k := .u32) ⟨r1, by show x.x5 < 2 ^ 32; omega⟩ (fun _ _ => rfl)
    rw [hw] at q3
    exact encP_of hx it (back_ok (c := wid.withOp k c.2) cxsok' hS (widS_body body34) rfl rfl hcond (sgF_ok it q3) S hgo' (inv_env hI _))

/-- Two instructions that are read back from the same halfwords are the same. -/
theorem val_inj {x y : Fields} (h : x.val = y.val) : x = y := by
  cases x; cases y
  simp only [Fields.val, Value.agg.injEq] at h
  simp at h
  obtain ⟨rfl, rfl, rfl, rfl, rfl, rfl, rfl, rfl, rfl⟩ := h
  rfl

theorem dec_one {D : Nat} (hi : Tryd.prog.inits.idxOf? D = none) {hs : List Int} {it : Bool} {x y : Fields} (h1 : Dec D hs it x) (h2 : Dec D hs it y) {K : Nat → Prop} {w0 : World} {ι : Nm} {w : World} (hI : Inv K w0 ι w) : x = y := by
  have := calls_one hi (h1 K w0 ι w hI) (h2 K w0 ι w hI)
  simp only [Value.tuple.injEq] at this
  exact val_inj (by simpa using this)

/-! ### What is answered, as signs -/

open Classical in
noncomputable def encOf (E D n : Nat) (x : Fields) (it : Bool) : List Int × Bool := if h : ∃ p, EncP E D n x it p then Classical.choose h else ([], false)

theorem encOf_ok {E D n : Nat} {x : Fields} {it : Bool} (h : ∃ p, EncP E D n x it p) : EncP E D n x it (encOf E D n x it) := by
  unfold encOf
  rw [dif_pos h]
  exact Classical.choose_spec h

theorem encOf_has (E D n : Nat) (x : Fields) (it : Bool) (i : Nat) : kHas .i64 ((encOf E D n x it).1.getD i 0) := by
  by_cases h : ∃ p, EncP E D n x it p
  · have P := encOf_ok h
    by_cases hi : i < (encOf E D n x it).1.length
    · rw [List.getD, List.getElem?_eq_getElem hi, Option.getD_some]
      exact P.has _ (List.getElem_mem hi)
    · rw [List.getD, List.getElem?_eq_none (by omega)]
      exact zero_has
  · unfold encOf
    rw [dif_neg h]
    exact zero_has

def fieldsOf (ss : List Sc) : Fields := ⟨(ss.getD 0 (.int 0)).asInt, (ss.getD 1 (.int 0)).asInt, (ss.getD 2 (.int 0)).asInt, (ss.getD 3 (.int 0)).asInt, (ss.getD 4 (.int 0)).asInt, (ss.getD 5 (.int 0)).asInt, (ss.getD 6 (.int 0)).asInt, (ss.getD 7 (.int 0)).asInt, (ss.getD 8 (.int 0)).asBool⟩

/-- 930, 931: the halfword, is there one; 932, 933, 934: two of them. -/
noncomputable def F3 (g : Nat) (ss : List Sc) : Sc :=
  match Nat.beq g 930 with
  | true => .int ((encOf 27 20 1 (fieldsOf ss) (ss.getD 9 (.int 0)).asBool).1.getD 0 0)
  | false => match Nat.beq g 931 with
    | true => .bool (encOf 27 20 1 (fieldsOf ss) (ss.getD 9 (.int 0)).asBool).2
    | false => match Nat.beq g 932 with
      | true => .int ((encOf 33 31 2 (fieldsOf ss) (ss.getD 9 (.int 0)).asBool).1.getD 0 0)
      | false => match Nat.beq g 933 with
        | true => .int ((encOf 33 31 2 (fieldsOf ss) (ss.getD 9 (.int 0)).asBool).1.getD 1 0)
        | false => match Nat.beq g 934 with
          | true => .bool (encOf 33 31 2 (fieldsOf ss) (ss.getD 9 (.int 0)).asBool).2
          | false => F2 g ss

theorem F3_has (g : Nat) (ss : List Sc) : kHas .i64 (F3 g ss).asInt := by
  unfold F3
  repeat' split
  all_goals first | exact encOf_has _ _ _ _ _ _ | exact zero_has | exact F2_has _ _

theorem F3_signs : Signs F3 := ⟨rfl, rfl⟩

namespace apt
def encPat : SVal := .cons (argT (.var 0) (.var 1) (.var 3) (.var 5)) (.cons (.bool (.var 9)) .nil)
def encR1 (t : Tm) : SVal := .tup (.cons (.int .i64 (.app 930 t)) (.cons (.bool (.app 931 t)) .nil))
def encR2 (t : Tm) : SVal := .tup (.cons (.int .i64 (.app 932 t)) (.cons (.int .i64 (.app 933 t)) (.cons (.bool (.app 934 t)) .nil)))
end apt

/-- There is always an answer. -/
def Ex (E D n : Nat) : Prop := ∀ (x : Fields), x.Ok → ∀ (it : Bool) (K : Nat → Prop) (w0 : World) (ι : Nm) (w : World), Inv K w0 ι w → ∃ p, EncP E D n x it p

theorem len_one {l : List Int} (h : l.length = 1) : l = [l.getD 0 0] := by
  match l, h with
  | [a], _ => rfl
theorem len_two {l : List Int} (h : l.length = 2) : l = [l.getD 0 0, l.getD 1 0] := by
  match l, h with
  | [a, b], _ => rfl

theorem encN_call (ex : Ex 27 20 1) {ρ : Env} (V : VarsOk ρ) (h0 : ρ.f = F3) : ∀ args h pc x, (pc.den ρ).asBool = true → (specR apt.encPat apt.encR1 args h pc).get ρ = some x → CallOk ρ cx.globs cx.P 27 args h x := by
  refine specR_ok V globsC rfl (by intro u hu; simp [apt.encPat, SVal.toList] at hu; rcases hu with rfl | rfl <;> rfl) (fun _ => rfl) ?_
  intro L hL hp
  match L, hL with
  | [s0, s1, s2, s3, s4, s5, s6, s7, s8, s9], _ =>
    obtain ⟨⟨p0, p1, p2, p3, p4, p5, p6, p7, _⟩, _⟩ := hp
    let x : Fields := ⟨s0.asInt, s1.asInt, s2.asInt, s3.asInt, s4.asInt, s5.asInt, s6.asInt, s7.asInt, s8.asBool⟩
    have hx : x.Ok := ⟨p0, p1, p2, p3, p4, p5, p6, p7⟩
    refine ⟨envOf F (x.scsW s9.asBool), ⟨.tup (.cons (.int .i64 (.num ((encOf 27 20 1 x s9.asBool).1.getD 0 0))) (.cons (.bool (.bit (encOf 27 20 1 x s9.asBool).2)) .nil)), [], .bit true⟩, ?_, fun ι => rfl, ?_⟩
    · intro K w0 ι w H _
      have hI : Inv K w0 ι w := inv_of H
      have P := encOf_ok (ex x hx s9.asBool K w0 ι w hI)
      have c := P.enc K w0 ι w hI
      rw [len_one P.len] at c
      refine Calls.mono (R := _) (show Calls Tryd.prog 27 #[x.val, .bool s9.asBool] w _ from c) ?_
      rintro e w' ⟨rfl, hI'⟩
      exact ⟨ι, Nm.Ext.refl _ _, Nat.le_refl _, inv_env hI' _, rfl, rfl, rfl⟩
    · intro t ι ι' ht
      simp only [SVal.conc, SVal.concL, apt.encR1, Tm.den, ht, h0]
      rfl

theorem encW_call (ex : Ex 33 31 2) {ρ : Env} (V : VarsOk ρ) (h0 : ρ.f = F3) : ∀ args h pc x, (pc.den ρ).asBool = true → (specR apt.encPat apt.encR2 args h pc).get ρ = some x → CallOk ρ cx.globs cx.P 33 args h x := by
  refine specR_ok V globsC rfl (by intro u hu; simp [apt.encPat, SVal.toList] at hu; rcases hu with rfl | rfl <;> rfl) (fun _ => rfl) ?_
  intro L hL hp
  match L, hL with
  | [s0, s1, s2, s3, s4, s5, s6, s7, s8, s9], _ =>
    obtain ⟨⟨p0, p1, p2, p3, p4, p5, p6, p7, _⟩, _⟩ := hp
    let x : Fields := ⟨s0.asInt, s1.asInt, s2.asInt, s3.asInt, s4.asInt, s5.asInt, s6.asInt, s7.asInt, s8.asBool⟩
    have hx : x.Ok := ⟨p0, p1, p2, p3, p4, p5, p6, p7⟩
    refine ⟨envOf F (x.scsW s9.asBool), ⟨.tup (.cons (.int .i64 (.num ((encOf 33 31 2 x s9.asBool).1.getD 0 0))) (.cons (.int .i64 (.num ((encOf 33 31 2 x s9.asBool).1.getD 1 0))) (.cons (.bool (.bit (encOf 33 31 2 x s9.asBool).2)) .nil))), [], .bit true⟩, ?_, fun ι => rfl, ?_⟩
    · intro K w0 ι w H _
      have hI : Inv K w0 ι w := inv_of H
      have P := encOf_ok (ex x hx s9.asBool K w0 ι w hI)
      have c := P.enc K w0 ι w hI
      rw [len_two P.len] at c
      refine Calls.mono (R := _) (show Calls Tryd.prog 33 #[x.val, .bool s9.asBool] w _ from c) ?_
      rintro e w' ⟨rfl, hI'⟩
      exact ⟨ι, Nm.Ext.refl _ _, Nat.le_refl _, inv_env hI' _, rfl, rfl, rfl⟩
    · intro t ι ι' ht
      simp only [SVal.conc, SVal.concL, apt.encR2, Tm.den, ht, h0]
      rfl

/-! ### Laws of two instructions -/

namespace apt
def argA (a : Nat) : SVal := .agg (.ofList [.int .i64 (.var a), .int .i64 (.var (a + 1)), .int .i64 (.var (a + 2)), .int .i64 (.var (a + 3)), .int .i64 (.var (a + 4)), .int .i64 (.var (a + 5)), .int .i64 (.var (a + 6)), .int .i64 (.var (a + 7)), .bool (.var (a + 8))])
def args : List SVal := [argA 0, argA 9, .bool (.var 18)]
def kn : Kn := ⟨[], [], [], [], [0]⟩
def argsT (a : Nat) : Tm := .cons (.var a) (.cons (.var (a + 1)) (.cons (.var (a + 2)) (.cons (.var (a + 3)) (.cons (.var (a + 4)) (.cons (.var (a + 5)) (.cons (.var (a + 6)) (.cons (.var (a + 7)) (.cons (.var (a + 8)) (.cons (.var 18) .nil)))))))))
def f (g a : Nat) : Tm := .app g (argsT a)
def eqi (a : Nat) : Tm := .op2 .eq (.var a) (.var (a + 9))
def same : Tm := .op2 .band (eqi 0) (.op2 .band (eqi 1) (.op2 .band (eqi 2) (.op2 .band (eqi 3) (.op2 .band (eqi 4) (.op2 .band (eqi 5) (.op2 .band (eqi 6) (.op2 .band (eqi 7) (.op2 .beq (.var 8) (.var 17)))))))))
def no (t : Tm) : Tm := .op1 .not t
def or (a b : Tm) : Tm := .op2 .bor a b
def uN : Tm := or (no (f 931 0)) (or (no (f 931 9)) (or (no (.op2 .eq (f 930 0) (f 930 9))) same))
def uW : Tm := or (no (f 934 0)) (or (no (f 934 9)) (or (no (.op2 .eq (f 932 0) (f 932 9))) (or (no (.op2 .eq (f 933 0) (f 933 9))) same)))
def uE : Tm := .ite (f 931 0) (or (no (f 931 9)) (or (no (.op2 .eq (f 930 0) (f 930 9))) same)) (or (no (f 934 0)) (or (f 931 9) (or (no (f 934 9)) (or (no (.op2 .band (.op2 .eq (f 932 0) (f 932 9)) (.op2 .eq (f 933 0) (f 933 9)))) same))))
end apt

/-- What the laws' walks know: the encoders; 'awake'. -/
def aptS (aw : Nat) : Specs := fun f => match Nat.beq f 27 with
  | true => some (specR apt.encPat apt.encR1)
  | false => match Nat.beq f 33 with
    | true => some (specR apt.encPat apt.encR2)
    | false => match Nat.beq f aw with
      | true => some (specOf .nil (fun _ => .bool (.bit true)))
      | false => none

/-- The same, of one encoder alone. -/
def apnS (aw : Nat) : Specs := fun f => match Nat.beq f 27 with
  | true => some (specR apt.encPat apt.encR1)
  | false => match Nat.beq f aw with
    | true => some (specOf .nil (fun _ => .bool (.bit true)))
    | false => none
def apwS (aw : Nat) : Specs := fun f => match Nat.beq f 33 with
  | true => some (specR apt.encPat apt.encR2)
  | false => match Nat.beq f aw with
    | true => some (specOf .nil (fun _ => .bool (.bit true)))
    | false => none

theorem aptS_ok {aw : Nat} (h0 : isTrue (callT cx noS (run cx noS 3000) aw [] [] (.bit true)) = true) (eN : Ex 27 20 1) (eW : Ex 33 31 2) {ρ : Env} (V : VarsOk ρ) (hf : ρ.f = F3) : (aptS aw).Ok ρ cx := by
  intro f sp h
  unfold aptS at h
  split at h
  · rename_i hg; have := Nat.eq_of_beq_eq_true hg; subst this
    simp only [Option.some.injEq] at h; subst h; exact encN_call eN V hf
  · split at h
    · rename_i hg; have := Nat.eq_of_beq_eq_true hg; subst this
      simp only [Option.some.injEq] at h; subst h; exact encW_call eW V hf
    · split at h
      · rename_i hg; have := Nat.eq_of_beq_eq_true hg; subst this
        simp only [Option.some.injEq] at h; subst h; exact awake_call h0 ρ
      · cases h

theorem apnS_ok {aw : Nat} (h0 : isTrue (callT cx noS (run cx noS 3000) aw [] [] (.bit true)) = true) (eN : Ex 27 20 1) {ρ : Env} (V : VarsOk ρ) (hf : ρ.f = F3) : (apnS aw).Ok ρ cx := by
  intro f sp h
  unfold apnS at h
  split at h
  · rename_i hg; have := Nat.eq_of_beq_eq_true hg; subst this
    simp only [Option.some.injEq] at h; subst h; exact encN_call eN V hf
  · split at h
    · rename_i hg; have := Nat.eq_of_beq_eq_true hg; subst this
      simp only [Option.some.injEq] at h; subst h; exact awake_call h0 ρ
    · cases h

theorem apwS_ok {aw : Nat} (h0 : isTrue (callT cx noS (run cx noS 3000) aw [] [] (.bit true)) = true) (eW : Ex 33 31 2) {ρ : Env} (V : VarsOk ρ) (hf : ρ.f = F3) : (apwS aw).Ok ρ cx := by
  intro f sp h
  unfold apwS at h
  split at h
  · rename_i hg; have := Nat.eq_of_beq_eq_true hg; subst this
    simp only [Option.some.injEq] at h; subst h; exact encW_call eW V hf
  · split at h
    · rename_i hg; have := Nat.eq_of_beq_eq_true hg; subst this
      simp only [Option.some.injEq] at h; subst h; exact awake_call h0 ρ
    · cases h

theorem enc_body {aw : Nat} (hb : ∃ fn c, cx.P.funcs[aw]? = some fn ∧ fn.body = some c) {f : Nat} (h : f = 27 ∨ f = 33 ∨ f = aw) : ∃ fn c, cx.P.funcs[f]? = some fn ∧ fn.body = some c := by
  rcases h with rfl | rfl | rfl
  · exact ⟨Tryd.f27, _, Tryd.func27, rfl⟩
  · exact ⟨Tryd.f33, _, Tryd.func33, rfl⟩
  · exact hb

theorem aptS_body {aw : Nat} (hb : ∃ fn c, cx.P.funcs[aw]? = some fn ∧ fn.body = some c) : ∀ f, aptS aw f ≠ none → ∃ fn c, cx.P.funcs[f]? = some fn ∧ fn.body = some c := by
  intro f h
  unfold aptS at h
  split at h
  · rename_i hg; exact enc_body hb (.inl (Nat.eq_of_beq_eq_true hg))
  · split at h
    · rename_i hg; exact enc_body hb (.inr (.inl (Nat.eq_of_beq_eq_true hg)))
    · split at h
      · rename_i hg; exact enc_body hb (.inr (.inr (Nat.eq_of_beq_eq_true hg)))
      · exact (h rfl).elim

theorem apnS_body {aw : Nat} (hb : ∃ fn c, cx.P.funcs[aw]? = some fn ∧ fn.body = some c) : ∀ f, apnS aw f ≠ none → ∃ fn c, cx.P.funcs[f]? = some fn ∧ fn.body = some c := by
  intro f h
  unfold apnS at h
  split at h
  · rename_i hg; exact enc_body hb (.inl (Nat.eq_of_beq_eq_true hg))
  · split at h
    · rename_i hg; exact enc_body hb (.inr (.inr (Nat.eq_of_beq_eq_true hg)))
    · exact (h rfl).elim

theorem apwS_body {aw : Nat} (hb : ∃ fn c, cx.P.funcs[aw]? = some fn ∧ fn.body = some c) : ∀ f, apwS aw f ≠ none → ∃ fn c, cx.P.funcs[f]? = some fn ∧ fn.body = some c := by
  intro f h
  unfold apwS at h
  split at h
  · rename_i hg; exact enc_body hb (.inr (.inl (Nat.eq_of_beq_eq_true hg)))
  · split at h
    · rename_i hg; exact enc_body hb (.inr (.inr (Nat.eq_of_beq_eq_true hg)))
    · exact (h rfl).elim

def scs3 (x y : Fields) (it : Bool) : List Sc := [.int x.x0, .int x.x1, .int x.x2, .int x.x3, .int x.x4, .int x.x5, .int x.x6, .int x.x7, .bool x.b, .int y.x0, .int y.x1, .int y.x2, .int y.x3, .int y.x4, .int y.x5, .int y.x6, .int y.x7, .bool y.b, .bool it]

theorem scs3_ok {x y : Fields} (h : x.Ok) (k : y.Ok) (it : Bool) : VarsOk (envOf F3 (scs3 x y it)) := by
  refine ⟨?_, F3_has⟩
  intro i
  match i with
  | 0 => exact h.h0
  | 1 => exact h.h1
  | 2 => exact h.h2
  | 3 => exact h.h3
  | 4 => exact h.h4
  | 5 => exact h.h5
  | 6 => exact h.h6
  | 7 => exact h.h7
  | 8 => exact zero_has
  | 9 => exact k.h0
  | 10 => exact k.h1
  | 11 => exact k.h2
  | 12 => exact k.h3
  | 13 => exact k.h4
  | 14 => exact k.h5
  | 15 => exact k.h6
  | 16 => exact k.h7
  | 17 => exact zero_has
  | 18 => exact zero_has
  | n + 19 => exact zero_has

theorem kn3_ok {x y : Fields} (h : x.Ok) (k : y.Ok) (it : Bool) : Sats (envOf F3 (scs3 x y it)) apt.kn := by
  refine Sats.start (scs3_ok h k it) _ ?_
  intro i hi
  simp only [List.mem_cons, List.not_mem_nil, or_false] at hi
  subst hi
  exact ⟨_, rfl⟩

/-- A law of two instructions, by what its walk says. -/
theorem apt_law {S : Specs} {f : Nat} {u : Tm} (hr : pxIs sg (.bool u) (callT cx S (run cx S 3000) f apt.args [] (.bit true)) apt.kn = true) {x y : Fields} (hx : x.Ok) (hy : y.Ok) (it : Bool) (hS : S.Ok (envOf F3 (scs3 x y it)) cx)
    (hB : ∀ f, S f ≠ none → ∃ fn c, cx.P.funcs[f]? = some fn ∧ fn.body = some c) (hu : (u.den (envOf F3 (scs3 x y it))).asBool = true) {w : World} (hw : Laid w) :
    Calls Tryd.prog f #[x.val, y.val, .bool it] w fun e w' => e = .returned (.bool true) ∧ Grown w w' := by
  obtain ⟨r, h1, h2⟩ := pxIs_ok (sg_ok' F3_signs) _ _ (kn3_ok hx hy it) hr
  have hc := call_ok (ρ := envOf F3 (scs3 x y it)) cxok hS hB rfl h1
  have := hc (ownK w) w ι0 w (start _ hw) (by intro v hv; simp only [apt.args, List.mem_cons, List.not_mem_nil, or_false] at hv; rcases hv with rfl | rfl | rfl <;> rfl)
  refine Calls.mono (R := _) (show Calls Tryd.prog f #[x.val, y.val, .bool it] w _ from this) ?_
  rintro e w' ⟨ι', _, _, H, _, _, rfl⟩
  rw [h2]
  exact ⟨by simp only [SVal.conc, hu], H.grown⟩

/-- The instructions' fields, one by one. -/
def sameB (x y : Fields) : Bool := (x.x0 == y.x0) && ((x.x1 == y.x1) && ((x.x2 == y.x2) && ((x.x3 == y.x3) && ((x.x4 == y.x4) && ((x.x5 == y.x5) && ((x.x6 == y.x6) && ((x.x7 == y.x7) && (x.b == y.b))))))))
theorem sameB_refl (x : Fields) : sameB x x = true := by simp [sameB]

theorem uN_den (x y : Fields) (it : Bool) : (apt.uN.den (envOf F3 (scs3 x y it))).asBool = (!(encOf 27 20 1 x it).2 || (!(encOf 27 20 1 y it).2 || (!((encOf 27 20 1 x it).1.getD 0 0 == (encOf 27 20 1 y it).1.getD 0 0) || sameB x y))) := rfl
theorem uW_den (x y : Fields) (it : Bool) : (apt.uW.den (envOf F3 (scs3 x y it))).asBool = (!(encOf 33 31 2 x it).2 || (!(encOf 33 31 2 y it).2 || (!((encOf 33 31 2 x it).1.getD 0 0 == (encOf 33 31 2 y it).1.getD 0 0) || (!((encOf 33 31 2 x it).1.getD 1 0 == (encOf 33 31 2 y it).1.getD 1 0) || sameB x y)))) := rfl

theorem apartN (ex : Ex 27 20 1) {x y : Fields} (hx : x.Ok) (hy : y.Ok) (it : Bool) {K : Nat → Prop} {w0 : World} {ι : Nm} {w : World} (hI : Inv K w0 ι w) (h1 : (encOf 27 20 1 x it).2 = true) (h2 : (encOf 27 20 1 y it).2 = true) (h3 : (encOf 27 20 1 x it).1.getD 0 0 = (encOf 27 20 1 y it).1.getD 0 0) : x = y := by
  have P := encOf_ok (ex x hx it K w0 ι w hI)
  have Q := encOf_ok (ex y hy it K w0 ι w hI)
  have d1 := P.dec h1
  have d2 := Q.dec h2
  rw [len_one P.len, h3, ← len_one Q.len] at d1
  exact dec_one (by kernel_rfl) d1 d2 hI

theorem apartW (ex : Ex 33 31 2) {x y : Fields} (hx : x.Ok) (hy : y.Ok) (it : Bool) {K : Nat → Prop} {w0 : World} {ι : Nm} {w : World} (hI : Inv K w0 ι w) (h1 : (encOf 33 31 2 x it).2 = true) (h2 : (encOf 33 31 2 y it).2 = true) (h3 : (encOf 33 31 2 x it).1.getD 0 0 = (encOf 33 31 2 y it).1.getD 0 0) (h4 : (encOf 33 31 2 x it).1.getD 1 0 = (encOf 33 31 2 y it).1.getD 1 0) : x = y := by
  have P := encOf_ok (ex x hx it K w0 ι w hI)
  have Q := encOf_ok (ex y hy it K w0 ι w hI)
  have d1 := P.dec h1
  have d2 := Q.dec h2
  rw [len_two P.len, h3, h4, ← len_two Q.len] at d1
  exact dec_one (by kernel_rfl) d1 d2 hI

theorem uN_true (ex : Ex 27 20 1) {x y : Fields} (hx : x.Ok) (hy : y.Ok) (it : Bool) {w : World} (hw : Laid w) : (apt.uN.den (envOf F3 (scs3 x y it))).asBool = true := by
  rw [uN_den]
  cases h1 : (encOf 27 20 1 x it).2
  · rfl
  cases h2 : (encOf 27 20 1 y it).2
  · rfl
  cases h3 : ((encOf 27 20 1 x it).1.getD 0 0 == (encOf 27 20 1 y it).1.getD 0 0)
  · rfl
  have := apartN ex hx hy it (inv_of (ι' := ι0) (start (envOf F []) hw)) h1 h2 (eq_of_beq h3)
  subst this
  rw [sameB_refl]; rfl

theorem uW_true (ex : Ex 33 31 2) {x y : Fields} (hx : x.Ok) (hy : y.Ok) (it : Bool) {w : World} (hw : Laid w) : (apt.uW.den (envOf F3 (scs3 x y it))).asBool = true := by
  rw [uW_den]
  cases h1 : (encOf 33 31 2 x it).2
  · rfl
  cases h2 : (encOf 33 31 2 y it).2
  · rfl
  cases h3 : ((encOf 33 31 2 x it).1.getD 0 0 == (encOf 33 31 2 y it).1.getD 0 0)
  · rfl
  cases h4 : ((encOf 33 31 2 x it).1.getD 1 0 == (encOf 33 31 2 y it).1.getD 1 0)
  · rfl
  have := apartW ex hx hy it (inv_of (ι' := ι0) (start (envOf F []) hw)) h1 h2 (eq_of_beq h3) (eq_of_beq h4)
  subst this
  rw [sameB_refl]; rfl

theorem uE_true (eN : Ex 27 20 1) (eW : Ex 33 31 2) {x y : Fields} (hx : x.Ok) (hy : y.Ok) (it : Bool) {w : World} (hw : Laid w) : (apt.uE.den (envOf F3 (scs3 x y it))).asBool = true := by
  have n := uN_true eN hx hy it hw
  have v := uW_true eW hx hy it hw
  rw [uN_den] at n
  rw [uW_den] at v
  have e : apt.uE.den (envOf F3 (scs3 x y it)) = (match (encOf 27 20 1 x it).2 with
    | true => .bool (!(encOf 27 20 1 y it).2 || (!((encOf 27 20 1 x it).1.getD 0 0 == (encOf 27 20 1 y it).1.getD 0 0) || sameB x y))
    | false => .bool (!(encOf 33 31 2 x it).2 || ((encOf 27 20 1 y it).2 || (!(encOf 33 31 2 y it).2 || (!(((encOf 33 31 2 x it).1.getD 0 0 == (encOf 33 31 2 y it).1.getD 0 0) && ((encOf 33 31 2 x it).1.getD 1 0 == (encOf 33 31 2 y it).1.getD 1 0)) || sameB x y))))) := rfl
  rw [e]
  cases h1 : (encOf 27 20 1 x it).2
  · simp only [Sc.asBool_bool]
    revert v
    cases (encOf 33 31 2 x it).2 <;> cases (encOf 33 31 2 y it).2 <;> cases (encOf 27 20 1 y it).2 <;> cases ((encOf 33 31 2 x it).1.getD 0 0 == (encOf 33 31 2 y it).1.getD 0 0) <;> cases ((encOf 33 31 2 x it).1.getD 1 0 == (encOf 33 31 2 y it).1.getD 1 0) <;> simp
  · rw [h1] at n
    simpa using n

end Go.Proofs.YtaiecnepchndkaaDoor
