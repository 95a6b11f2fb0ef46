/- For the seat: texts joined: DcDef, AnsDef, Ints, UnpDef, Unp, KrX, KrC, KrE0. -/
import Derived.Test.YtdeelhbckfmaeaaGreatDoorJB
import Derived.Test.YtdeelhbckfmaeaaGreatDoorSxEqx
import Derived.Test.YtdeelhbckfmaeaaGreatDoorSxCasW
import Derived.Test.YtdeelhbckfmaeaaGreatDoorJA
import Derived.WalkKit
import Derived.OwnWalk
import Derived.LoopTactic
import Derived.BigQuiet
import Derived.Deep.QuietTactic
import Derived.Laws.OwnMore
import Derived.Deep.AppendLies
import Derived.Lib.Hide
import Derived.Deep.RegionHeldLaw
import Derived.Deep.RegionLaw
import Derived.Lib.Strings
import Derived.WalkLawsBesides
/- For the seat: functions that answer, whatever the world; encoders and decoders, there and back. -/
namespace Go.Proofs.YtdeelhbckfmaeaaGreatDoor
open Go.Sx Go.ChangeShapes Go.WideShapes Go.RowKit Go.Joins Go.Deep

set_option maxRecDepth 100000 in
theorem laid_below {w w' : World} (_h : Laid w) (_hb : Below w.heap.size w w') : Laid w' := trivial

set_option maxRecDepth 100000 in
theorem inv_laid {K : Nat → Prop} {w0 : World} {ι : Nm} {w : World} (_h : Inv K w0 ι w) : Laid w := trivial

/-- Some world. -/
noncomputable def lw : World := default
set_option maxRecDepth 100000 in
theorem lw_laid : Laid lw := trivial

/-- A function of scalars answers, whatever the world; nothing that was there is changed. -/
def Ans (f : Nat) (args : List Value) (v : Value) : Prop := ∀ w, Laid w → Calls Tryz.prog f args.toArray w fun e w' => e = .returned v ∧ Below w.heap.size w w'

set_option maxRecDepth 100000 in
theorem Ans.go {f : Nat} {args : List Value} {v : Value} (h : Ans f args v) {w : World} (hw : Laid w) : Calls Tryz.prog f args.toArray w fun e w' => e = .returned v ∧ Below w.heap.size w w' := h w hw

set_option maxRecDepth 100000 in
theorem Ans.inv {f : Nat} {args : List Value} {v : Value} (h : Ans f args v) {K : Nat → Prop} {w0 : World} {ι : Nm} {w : World} (hI : Inv K w0 ι w) :
    Calls Tryz.prog f args.toArray w fun e w' => e = .returned v ∧ Inv K w0 ι w' :=
  (h w (inv_laid hI)).mono fun _ _ ⟨he, hb⟩ => ⟨he, hI.under hb⟩

set_option maxRecDepth 100000 in
theorem ans_of {ρ : Env} {f : Nat} {args : List SVal} {x : Res} {l : List Value} {v : Value} (hc : CallOk ρ cx.globs cx.P f args [] x) (hsc : ∀ u ∈ args, u.sc 0 = true) (ha : args.map (·.conc ρ ι0) = l) (hv : ∀ ι, x.v.conc ρ ι = v) (hab : ∀ q, ¬ ρ.ab.B q := by exact fun _ h => h) : Ans f l v := by
  intro w hw
  have := hc (ownK w) w ι0 w (start ρ hw (fun q h => (hab q h).elim)) hsc
  rw [ha] at this
  refine Calls.mono (R := _) (show Calls Tryz.prog f l.toArray w _ from this) ?_
  rintro e w' ⟨ι', _, _, H, _, _, rfl⟩
  exact ⟨by rw [hv ι'], H.grown⟩

set_option maxRecDepth 100000 in
theorem Ans.one {f : Nat} (hi : Tryz.prog.inits.idxOf? f = none) {l : List Value} {u v : Value} (h1 : Ans f l u) (h2 : Ans f l v) : u = v := calls_one hi (h1 lw lw_laid) (h2 lw lw_laid)

set_option maxRecDepth 100000 in
/-- A function of scalars that answers, as something that is known to the walks. -/
theorem Ans.ok {ρ : Env} {f : Nat} {args : List SVal} {v : SVal} (h : ∀ ι, Ans f (args.map (·.conc ρ ι)) (v.conc ρ ι)) (hsc : v.sc 0 = true) (hab : ∀ q, ¬ ρ.ab.B q := by exact fun _ h => h) : CallOk ρ cx.globs cx.P f args [] ⟨v, [], .bit true⟩ := by
  intro K w0 ι w H _
  refine (((h ι).inv (inv_of (ι' := ι) H))).mono ?_
  rintro e w' ⟨rfl, hI⟩
  exact ⟨ι, Nm.Ext.refl _ _, Nat.le_refl _, inv_env hI _ (fun q h => (hab q h).elim), SVal.sc_mono (Nat.zero_le _) _ hsc, rfl, rfl⟩

/-- An encoder's answer; where there is one, the decoder gives the instruction back. -/
structure EncP (E D n : Nat) (x : Fields) (it : Bool) (p : List Int × Bool) : Prop where
  len : p.1.length = n
  has : ∀ a ∈ p.1, kHas .i64 a
  enc : Ans E [x.val, .bool it] (.tuple (p.1.map (Value.int .i64) ++ [Value.bool p.2]).toArray)
  dec : p.2 = true → Ans D (p.1.map (Value.int .i64) ++ [Value.bool it]) (.tuple #[x.val, .bool true])

namespace apt
def ins : SVal := argT (.var 0) (.var 1) (.var 3) (.var 5)
def it : SVal := .bool (.var 9)
end apt

set_option maxRecDepth 100000 in
theorem insOf_conc {ρ : Env} {y v : SVal} {o : Tm} (h : insOf y = some (v, o)) (ι : Nm) : y.conc ρ ι = .tuple #[v.conc ρ ι, .bool (o.den ρ).asBool] := by
  unfold insOf at h
  split at h
  · simp only [Option.some.injEq, Prod.mk.injEq] at h
    obtain ⟨rfl, rfl⟩ := h
    rfl
  · cases h

set_option maxRecDepth 100000 in
theorem encP_of {E D n : Nat} {x : Fields} (hx : x.Ok) (it : Bool)
    (h : ∃ (y : Res) (l : List Tm) (t : Tm), CallOk (envOf F2 (x.scsW it)) cx.globs cx.P E [apt.ins, apt.it] [] y ∧ answerOf y.v = some (l, t) ∧ l.length = n ∧
      ((t.den (envOf F2 (x.scsW it))).asBool = true → ∃ (y : Res) (v : SVal) (o : Tm), CallOk (envOf F2 (x.scsW it)) cx.globs cx.P D (l.map (.int .i64) ++ [apt.it]) [] y ∧ insOf y.v = some (v, o) ∧ (o.den (envOf F2 (x.scsW it))).asBool = true ∧ ∀ ι ι', v.conc (envOf F2 (x.scsW it)) ι = apt.ins.conc (envOf F2 (x.scsW it)) ι')) :
    ∃ p, EncP E D n x it p := by
  obtain ⟨y, l, t, hc, ha, hl, hd⟩ := h
  obtain ⟨a1, a2⟩ := answerOf_ok (ρ := envOf F2 (x.scsW it)) ha
  refine ⟨(l.map fun a => (a.den (envOf F2 (x.scsW it))).asInt, (t.den (envOf F2 (x.scsW it))).asBool), by simpa using hl, ?_, ?_, ?_⟩
  · intro a h
    obtain ⟨b, hb, rfl⟩ := List.mem_map.1 h
    exact inK_ok (scsW_ok hx it) .i64 b (a2 b hb)
  · refine ans_of hc (by intro v hv; simp only [List.mem_cons, List.not_mem_nil, or_false] at hv; rcases hv with rfl | rfl <;> rfl) rfl ?_
    intro ι'
    rw [a1 ι', List.map_map]
    rfl
  · intro ht
    obtain ⟨y2, v, o, hc2, hi, ho, hv⟩ := hd ht
    refine ans_of hc2 (by
      intro v hv
      simp only [List.mem_append, List.mem_map, List.mem_cons, List.not_mem_nil, or_false] at hv
      rcases hv with ⟨u, _, rfl⟩ | rfl <;> rfl) ?_ ?_
    · rw [List.map_append, List.map_map, List.map_map]
      rfl
    · intro ι'
      rw [insOf_conc hi ι', ho, hv ι' ι']
      rfl

/-! ### The cases -/

/-- The number's twelve bits are there, and tell it. -/
def sgF : Sg := { defs := fun g => match Nat.beq g 901 with | true => some Chk.chk | false => none, ufs := [(910, [5], 10), (911, [5], 11), (920, [10], 5), (921, [10], 11)], pop := 900 }

set_option maxRecDepth 100000 in
theorem find_some {x : Int} (h : findB x = true) : valB (findI x) = true ∧ expI (findI x) = x := by
  unfold findB at h
  unfold findI
  cases hn : findN x with
  | none => rw [hn] at h; cases h
  | some n =>
    rw [findN_eq] at hn
    have := List.find?_some hn
    unfold hit at this
    rw [Bool.and_eq_true] at this
    exact ⟨this.1, eq_of_beq this.2⟩

set_option maxRecDepth 100000 in
theorem sgF_ok {x : Fields} (it : Bool) (hf : findB x.x5 = true) : sgF.Ok (envOf F2 (x.scsW it)) := by
  have s := sgL_ok (x := x) it
  obtain ⟨hv, he⟩ := find_some hf
  refine ⟨s.defs, ?_, s.pop⟩
  intro g xs y hm ss hss
  simp only [sgF, List.mem_cons, List.not_mem_nil, or_false, Prod.mk.injEq] at hm
  have one : ∀ i : Nat, ss.map Sc.asInt = [i].map (fun v => ((envOf F2 (x.scsW it)).v v).asInt) → ∃ s, ss = [s] ∧ s.asInt = ((envOf F2 (x.scsW it)).v i).asInt := by
    intro i h
    match ss, h with
    | [s], h => exact ⟨s, rfl, by simpa using h⟩
    | [], h => simp at h
    | _ :: _ :: _, h => simp at h
  rcases hm with ⟨rfl, rfl, rfl⟩ | ⟨rfl, rfl, rfl⟩ | ⟨rfl, rfl, rfl⟩ | ⟨rfl, rfl, rfl⟩
  · exact s.ufs 910 [5] 10 (by simp [wid.sgL]) ss hss
  · exact s.ufs 911 [5] 11 (by simp [wid.sgL]) ss hss
  · obtain ⟨s, rfl, hs⟩ := one 10 hss
    have hs : s.asInt = findI x.x5 := hs
    show Sc.int (expI s.asInt) = Sc.int x.x5
    rw [hs, he]
  · obtain ⟨s, rfl, hs⟩ := one 10 hss
    have hs : s.asInt = findI x.x5 := hs
    show Sc.bool (valB s.asInt) = Sc.bool (findB x.x5)
    rw [hs, hv, hf]

namespace apt
def nthN (k j : Nat) : Cas := (Cb.casesN k).getD j ⟨[], [], []⟩
def covN (k : Nat) : Bool := pxT wid.sgL (anyT ((Cb.casesN k).map Cas.cond)) (wid.ek k) (fun _ => true)
/-- Ldm and Stm by each register. -/
def casesV (k : Nat) : List (Bool × Cas) := match Nat.beq k 31 || Nat.beq k 32 with
  | true => (false, Cb.refused k) :: (Cb.prod [Cb.zs [1, 2, 4, 5, 6], (List.range 15).map (fun n => Cb.lit 3 (Int.ofNat n)), [Cb.msk 7 65535]]).map fun c => (false, c)
  | false => Cb.casesW k
def nthV (k j : Nat) : Bool × Cas := (casesV k).getD j (false, ⟨[], [], []⟩)
def sgOf : Bool → Sg
  | true => sgF
  | false => wid.sgL
def covV (k : Nat) : Bool := pxT wid.sgL (anyT ((casesV k).map fun c => c.2.cond)) (wid.ek k) (fun _ => true)
/-- What such a case knows. -/
def tells (c : Bool × Cas) : Bool := !c.1 || (c.2.pre.contains (Cb.fnd (Cb.V 5)) && (c.2.pre.contains (Cb.le (Cb.num 0) (Cb.V 5)) && c.2.pre.contains (Cb.le (Cb.V 5) (Cb.num 4294967295))))
def tellsV : Nat → Bool
  | 0 => true
  | n + 1 => (casesV (n + 1)).all tells && tellsV n
set_option maxRecDepth 100000 in
theorem tellsV45 : tellsV 45 = true := by kernel_rfl
set_option maxRecDepth 100000 in
theorem tellsV_get : ∀ n, tellsV n = true → ∀ k, 1 ≤ k → k ≤ n → (casesV k).all tells = true
  | 0, _, k, h, h' => by omega
  | n + 1, hc, k, h, h' => by
    simp only [tellsV, Bool.and_eq_true] at hc
    by_cases e : k = n + 1
    · subst e; exact hc.1
    · exact tellsV_get n hc.2 k h (by omega)
def cq : Cas := ⟨[wid.refused], [], [wid.refused]⟩
/-- The walk at a case, with what is known of callees. -/
noncomputable def nat (S : Specs) (E D k j : Nat) : Bool := pxBoth wid.sgL (backTree cxs' S 3000 E D 1 ins it (wid.withOp k (nthN k j))) (wid.ek k)
noncomputable def vat (S : Specs) (E D k j : Nat) : Bool := pxBoth (sgOf (nthV k j).1) (backTree cxs' S 3000 E D 2 ins it (wid.withOp k (nthV k j).2)) (wid.ek k)
noncomputable def atq (S : Specs) (E D n : Nat) (e : Kn) : Bool := pxBoth wid.sgL (backTree cxs' S 3000 E D n ins it cq) e
end apt

set_option maxRecDepth 100000 in
theorem cq_cond {ρ : Env} (h : (wid.refused.den ρ).asBool = true) : (apt.cq.cond.den ρ).asBool = true := by
  show ((wid.refused.den ρ).asBool && true) = true
  rw [h]; rfl

set_option maxRecDepth 100000 in
theorem exN {S : Specs} (hS : ∀ {ρ : Env}, VarsOk ρ → ρ.f = F2 → S.Ok ρ cx) (hB : ∀ f, S f ≠ none → ∃ fn c, cx.P.funcs[f]? = some fn ∧ fn.body = some c) {E D : Nat} {x : Fields} (hx : x.Ok) (it : Bool)
    (hlo : apt.atq S E D 1 wid.knLow = true) (hhi : apt.atq S E D 1 wid.knHigh = true) (hcov : ∀ k : Nat, 1 ≤ k → k ≤ 45 → apt.covN k = true)
    (hgo : ∀ k : Nat, 1 ≤ k → k ≤ 45 → ∀ j : Nat, j < (Cb.casesN k).length → apt.nat S E D k j = true) : ∃ p, EncP E D 1 x it p := by
  have Kn := knW_ok hx it
  have so := sgL_ok (x := x) it
  have hSo := hS (scsW_ok hx it) rfl
  have H := start (envOf F2 (x.scsW it)) lw_laid
  by_cases h1 : x.x0 < 1
  · have S := Kn.tell (.le 0 0) (decide_eq_true (show x.x0 ≤ 0 by omega))
    exact encP_of hx it (back_ok cxsok' hSo hB rfl rfl (cq_cond (pxT_ok so S wid.ref_low).1) so S hlo H)
  by_cases h2 : 45 < x.x0
  · have S := Kn.tell (.le 0 45) (decide_eq_false (show ¬ x.x0 ≤ 45 by omega))
    exact encP_of hx it (back_ok cxsok' hSo hB rfl rfl (cq_cond (pxT_ok so S wid.ref_high).1) so S hhi H)
  obtain ⟨k, hk⟩ := Int.eq_ofNat_of_zero_le (show 0 ≤ x.x0 by omega)
  have S := Kn.tell (.pt 0 (Int.ofNat k)) (b := true) (decide_eq_true (show x.x0 = Int.ofNat k by rw [hk]; rfl))
  obtain ⟨c, hc, hcond⟩ := cas_cov so S (hcov k (by omega) (by omega))
  obtain ⟨j, hj, hjc⟩ := List.getElem_of_mem hc
  have hnth : apt.nthN k j = c := by simp only [apt.nthN, List.getD, List.getElem?_eq_getElem hj, Option.getD_some, hjc]
  have hgo' := hgo k (by omega) (by omega) j hj
  rw [apt.nat, hnth] at hgo'
  exact encP_of hx it (back_ok (c := wid.withOp k c) cxsok' hSo hB rfl rfl hcond so S hgo' H)

set_option maxRecDepth 100000 in
theorem exV {S : Specs} (hS : ∀ {ρ : Env}, VarsOk ρ → ρ.f = F2 → S.Ok ρ cx) (hB : ∀ f, S f ≠ none → ∃ fn c, cx.P.funcs[f]? = some fn ∧ fn.body = some c) {E D : Nat} {x : Fields} (hx : x.Ok) (it : Bool)
    (hlo : apt.atq S E D 2 wid.knLow = true) (hhi : apt.atq S E D 2 wid.knHigh = true) (hcov : ∀ k : Nat, 1 ≤ k → k ≤ 45 → apt.covV k = true)
    (hgo : ∀ k : Nat, 1 ≤ k → k ≤ 45 → ∀ j : Nat, j < (apt.casesV k).length → apt.vat S E D k j = true) : ∃ p, EncP E D 2 x it p := by
  have Kn := knW_ok hx it
  have so := sgL_ok (x := x) it
  have hSo := hS (scsW_ok hx it) rfl
  have H := start (envOf F2 (x.scsW it)) lw_laid
  by_cases h1 : x.x0 < 1
  · have S := Kn.tell (.le 0 0) (decide_eq_true (show x.x0 ≤ 0 by omega))
    exact encP_of hx it (back_ok cxsok' hSo hB rfl rfl (cq_cond (pxT_ok so S wid.ref_low).1) so S hlo H)
  by_cases h2 : 45 < x.x0
  · have S := Kn.tell (.le 0 45) (decide_eq_false (show ¬ x.x0 ≤ 45 by omega))
    exact encP_of hx it (back_ok cxsok' hSo hB rfl rfl (cq_cond (pxT_ok so S wid.ref_high).1) so S hhi H)
  obtain ⟨k, hk⟩ := Int.eq_ofNat_of_zero_le (show 0 ≤ x.x0 by omega)
  have S := Kn.tell (.pt 0 (Int.ofNat k)) (b := true) (decide_eq_true (show x.x0 = Int.ofNat k by rw [hk]; rfl))
  obtain ⟨t, ht, hcond⟩ := anyT_den _ _ (pxT_ok so S (hcov k (by omega) (by omega))).1
  obtain ⟨c, hc, rfl⟩ := List.mem_map.1 ht
  obtain ⟨j, hj, hjc⟩ := List.getElem_of_mem hc
  have hnth : apt.nthV k j = c := by simp only [apt.nthV, List.getD, List.getElem?_eq_getElem hj, Option.getD_some, hjc]
  have hgo' := hgo k (by omega) (by omega) j hj
  rw [apt.vat, hnth] at hgo'
  cases hb : c.1 with
  | false =>
    rw [hb] at hgo'
    exact encP_of hx it (back_ok (c := wid.withOp k c.2) cxsok' hSo hB rfl rfl hcond so S hgo' H)
  | true =>
    rw [hb] at hgo'
    have tl := List.all_eq_true.1 (apt.tellsV_get 45 apt.tellsV45 k (by omega) (by omega)) c hc
    simp only [apt.tells, hb, Bool.not_true, Bool.false_or, Bool.and_eq_true, List.contains_iff_mem] at tl
    have hall := allT_den _ _ hcond
    have q1 : (decide ((0 : Int) ≤ x.x5)) = true := hall _ tl.2.1
    have q2 : (decide (x.x5 ≤ (4294967295 : Int))) = true := hall _ tl.2.2
    have q3 : findB (IntKind.u32.wrap x.x5) = true := hall _ tl.1
    have r1 := of_decide_eq_true q1
    have r2 := of_decide_eq_true q2
    have hw : IntKind.u32.wrap x.x5 = x.x5 := wrap_eq (k := .u32) ⟨r1, by show x.x5 < 2 ^ 32; omega⟩ (fun _ _ => rfl)
    rw [hw] at q3
    exact encP_of hx it (back_ok (c := wid.withOp k c.2) cxsok' hSo hB rfl rfl hcond (sgF_ok it q3) S hgo' H)

set_option maxRecDepth 100000 in
/-- Two instructions of the same value are the same. -/
theorem val_inj {x y : Fields} (h : x.val = y.val) : x = y := by
  cases x; cases y
  simp only [Fields.val, Value.agg.injEq] at h
  simp at h
  obtain ⟨rfl, rfl, rfl, rfl, rfl, rfl, rfl, rfl, rfl⟩ := h
  rfl

end Go.Proofs.YtdeelhbckfmaeaaGreatDoor
/- For the seat: what a halfword, or two, are read as: there is always an answer. -/
namespace Go.Proofs.YtdeelhbckfmaeaaGreatDoor
open Go.Sx Go.ChangeShapes Go.WideShapes Go.RowKit Go.Joins Go.Deep

/-- An instruction's fields, as terms. -/
def fldsOf : SVal → Option (List Tm × Tm)
  | .cons (.int .i64 a0) (.cons (.int .i64 a1) (.cons (.int .i64 a2) (.cons (.int .i64 a3) (.cons (.int .i64 a4) (.cons (.int .i64 a5) (.cons (.int .i64 a6) (.cons (.int .i64 a7) (.cons (.bool b) .nil)))))))) =>
    match a0.inK .i64 && (a1.inK .i64 && (a2.inK .i64 && (a3.inK .i64 && (a4.inK .i64 && (a5.inK .i64 && (a6.inK .i64 && a7.inK .i64)))))) with
    | true => some ([a0, a1, a2, a3, a4, a5, a6, a7], b)
    | false => none
  | _ => none

set_option maxRecDepth 100000 in
theorem fldsOf_ok {ρ : Env} (V : VarsOk ρ) {v : SVal} {p : List Tm × Tm} (h : fldsOf v = some p) : ∃ x : Fields, x.Ok ∧ ∀ ι, (SVal.agg v).conc ρ ι = x.val := by
  unfold fldsOf at h
  split at h
  · rename_i a0 a1 a2 a3 a4 a5 a6 a7 b
    split at h
    · rename_i hk
      simp only [Bool.and_eq_true] at hk
      obtain ⟨k0, k1, k2, k3, k4, k5, k6, k7⟩ := hk
      exact ⟨⟨(a0.den ρ).asInt, (a1.den ρ).asInt, (a2.den ρ).asInt, (a3.den ρ).asInt, (a4.den ρ).asInt, (a5.den ρ).asInt, (a6.den ρ).asInt, (a7.den ρ).asInt, (b.den ρ).asBool⟩,
        ⟨inK_ok V .i64 a0 k0, inK_ok V .i64 a1 k1, inK_ok V .i64 a2 k2, inK_ok V .i64 a3 k3, inK_ok V .i64 a4 k4, inK_ok V .i64 a5 k5, inK_ok V .i64 a6 k6, inK_ok V .i64 a7 k7⟩, fun _ => rfl⟩
    · cases h
  · cases h

/-- Whether the answer is an instruction and a truth. -/
def ansD (x : Res) : Tree Res :=
  match insOf x.v with
  | some (.agg l, _) => match fldsOf l with
    | some _ => .leaf trueRes
    | none => .fail "no fields"
  | _ => .fail "no instruction"

/-- What a decoder answers. -/
structure DecP (D : Nat) (args : List Value) (p : Fields × Bool) : Prop where
  ok : p.1.Ok
  ans : Ans D args (.tuple #[p.1.val, .bool p.2])

noncomputable def ansTree (cx : Cx) (S : Specs) (fuel : Nat) (D : FuncId) (pat : List SVal) (c : Cas) : Tree Res :=
  .ite c.cond (.assert (allT (condS c.sub ++ c.pc)) ((callT cx S (run cx S fuel) D (pat.map (subV c.sub)) [] (c.pc.foldr mkAnd (.bit true))).bind ansD)) (.leaf trueRes)

set_option maxRecDepth 100000 in
theorem ans_ok {ρ : Env} {cx' : Cx} (ok : cx'.Ok) (hP : cx'.P = cx.P) (hG : cx'.globs = cx.globs) {S : Specs} (hS : S.Ok ρ cx') (hB : ∀ f, S f ≠ none → ∃ fn c, cx'.P.funcs[f]? = some fn ∧ fn.body = some c) (V : VarsOk ρ) {fuel : Nat} {D : FuncId} {pat : List SVal} {l : List Value} {c : Cas}
    (hsc : ∀ v ∈ pat, v.sc 0 = true) (hl : pat.map (·.conc ρ ι0) = l) (hc : (c.cond.den ρ).asBool = true) {sg : Sg} (so : sg.Ok ρ) {e : Kn} (hs : Sats ρ e) (hx : pxBoth sg (ansTree cx' S fuel D pat c) e = true) (hab : ∀ q, ¬ ρ.ab.B q := by exact fun _ h => h) :
    ∃ p, DecP D l p := by
  obtain ⟨z, b, h1, h2, h3⟩ := pxBoth_ok so _ _ hs hx
  simp only [ansTree, Tree.get, hc] at h1
  cases ha : ((allT (condS c.sub ++ c.pc)).den ρ).asBool with
  | false => rw [ha] at h1; cases h1
  | true =>
  rw [ha] at h1
  have hall := allT_den ρ _ ha
  have hsub : ∀ t ∈ condS c.sub, (t.den ρ).asBool = true := fun t ht => hall t (by simp [ht])
  simp only [Tree.get_bind, Option.bind_eq_some_iff] at h1
  obtain ⟨x, hx1, hx2⟩ := h1
  have hcall := call_ok ok hS hB (conj_den ρ _ (fun t ht => hall t (by simp [ht]))) hx1
  have hcall' : CallOk ρ cx.globs cx.P D pat [] x := by
    rw [← hP, ← hG]
    refine hcall.args ?_ ?_
    · intro v hv
      obtain ⟨u, hu, rfl⟩ := List.mem_map.1 hv
      exact subV_sc u (hsc u hu)
    · intro ι
      rw [List.map_map]
      exact List.map_congr_left fun v _ => (subV_conc hsub ι v).1
  unfold ansD at hx2
  split at hx2
  · rename_i l' o hi
    split at hx2
    · rename_i q hq
      obtain ⟨y, hy, hv⟩ := fldsOf_ok V hq
      exact ⟨(y, (o.den ρ).asBool), hy, ans_of hcall' hsc hl (fun ι => by rw [insOf_conc hi ι, hv ι]) hab⟩
    · cases hx2
  · cases hx2

namespace sho
def kn : Kn := ⟨[], [], [], [], [0]⟩
def bitsL : List (Nat × Nat) := [(65024, 0), (65024, 512), (65024, 1024), (65024, 1536), (65024, 2048), (65024, 2560), (65024, 3072), (65024, 3584), (65024, 4096), (65024, 4608), (65024, 5120), (65024, 5632), (65024, 6144), (65024, 6656), (65024, 7168), (65024, 7680), (65024, 8192), (65024, 8704), (65024, 9216), (65024, 9728), (65024, 10240), (65024, 10752), (65024, 11264), (65024, 11776), (65024, 12288), (65024, 12800), (65024, 13312), (65024, 13824), (65024, 14336), (65024, 14848), (65024, 15360), (65024, 15872), (65472, 16384), (65472, 16448), (65472, 16512), (65472, 16576), (65472, 16640), (65472, 16704), (65472, 16768), (65472, 16832), (65472, 16896), (65472, 16960), (65472, 17024), (65472, 17088), (65472, 17152), (65472, 17216), (65472, 17280), (65472, 17344), (65280, 17408), (65280, 17664), (65280, 17920), (65280, 18176), (63488, 18432), (65024, 20480), (65024, 20992), (65024, 21504), (65024, 22016), (65024, 22528), (65024, 23040), (65024, 23552), (65024, 24064), (63488, 24576), (63488, 26624), (63488, 28672), (63488, 30720), (63488, 32768), (63488, 34816), (63488, 36864), (63488, 38912), (63488, 40960), (63488, 43008), (65280, 45056), (65280, 45312), (65280, 45568), (65280, 45824), (65280, 46080), (65280, 46336), (65280, 46592), (65280, 46848), (65280, 47104), (65280, 47360), (65280, 47616), (65280, 47872), (65280, 48128), (65280, 48384), (65280, 48640), (65280, 48896), (63488, 49152), (63488, 51200), (61440, 53248), (63488, 57344), (63488, 59392), (63488, 61440), (63488, 63488)]
def cases : List Cas := bitsL.map fun c => Cb.bits 0 c.1 c.2
def pat : List SVal := [.int .i64 (.var 0), .bool (.var 1)]
def nth (j : Nat) : Cas := cases.getD j ⟨[], [], []⟩
set_option maxRecDepth 100000 in
theorem cov : pxT sg (anyT (cases.map Cas.cond)) kn (fun _ => true) = true := by kernel_rfl
set_option maxRecDepth 100000 in
theorem len : cases.length = 94 := by kernel_rfl
end sho

def scsH (n : Int) (it : Bool) : List Sc := [.int n, .bool it]

set_option maxRecDepth 100000 in
theorem scsH_ok {n : Int} (h : kHas .i64 n) (it : Bool) : VarsOk (envOf F2 (scsH n it)) := by
  refine ⟨?_, F2_has⟩
  intro i
  match i with
  | 0 => exact h
  | 1 => exact zero_has
  | k + 2 => exact zero_has

set_option maxRecDepth 100000 in
theorem knH_ok {n : Int} (h : kHas .i64 n) (it : Bool) : Sats (envOf F2 (scsH n it)) sho.kn := by
  refine Sats.start (scsH_ok h it) _ ?_
  intro i hi
  simp only [List.mem_cons, List.not_mem_nil, or_false] at hi
  subst hi
  exact ⟨_, rfl⟩


namespace tal
def kn : Kn := ⟨[], [], [], [], [0, 1]⟩
def pat3 : List SVal := [.int .i64 (.var 0), .int .i64 (.var 1), .bool (.var 2)]
def cases : List Cas :=
  [Cb.bits 0 0x8000 0, Cb.bits 0 0xC000 0x8000, Cb.bits 0 0xE000 0xC000, Cb.bits 0 0xF800 0xE000] ++
  (List.range 32).map (fun i => Cb.bits 0 0xFFF0 (0xE800 + 16 * i)) ++
  Cas.mul ((List.range 32).map fun i => Cb.bits 0 0xFFF0 (0xEA00 + 16 * i)) [Cb.bits 1 0x8000 0x8000, Cb.bits 1 0xC000 0x4000, Cb.bits 1 0xE000 0x2000, Cb.bits 1 0xF000 0x1000, Cb.bits 1 0xF080 0x80, Cb.bits 1 0xF0C0 0x40, Cb.bits 1 0xF0E0 0x20, Cb.bits 1 0xF0F0 0x10, Cb.bits 1 0xF0F0 0] ++
  (List.range 4).map (fun i => Cb.bits 0 0xFF00 (0xEC00 + 256 * i)) ++
  (List.range 32).map (fun i => Cb.bits 0 0xFFF0 (0xF000 + 16 * i)) ++
  (List.range 2).map (fun i => Cb.bits 0 0xFF00 (0xF200 + 256 * i)) ++
  (List.range 32).map (fun i => Cb.bits 0 0xFFF0 (0xF400 + 16 * i)) ++
  (List.range 2).map (fun i => Cb.bits 0 0xFF00 (0xF600 + 256 * i)) ++
  (List.range 16).map (fun i => Cb.bits 0 0xFFF0 (0xF800 + 16 * i)) ++
  (List.range 7).map (fun i => Cb.bits 0 0xFF00 (0xF900 + 256 * i))
def nth (j : Nat) : Cas := cases.getD j ⟨[], [], []⟩
set_option maxRecDepth 100000 in
theorem cov : pxT sg (anyT (cases.map Cas.cond)) kn (fun _ => true) = true := by kernel_rfl
set_option maxRecDepth 100000 in
theorem len : cases.length = 419 := by kernel_rfl
end tal

def scsT (a b : Int) (it : Bool) : List Sc := [.int a, .int b, .bool it]

set_option maxRecDepth 100000 in
theorem scsT_ok {a b : Int} (ha : kHas .i64 a) (hb : kHas .i64 b) (it : Bool) : VarsOk (envOf F2 (scsT a b it)) := by
  refine ⟨?_, F2_has⟩
  intro i
  match i with
  | 0 => exact ha
  | 1 => exact hb
  | 2 => exact zero_has
  | k + 3 => exact zero_has

set_option maxRecDepth 100000 in
theorem knT_ok {a b : Int} (ha : kHas .i64 a) (hb : kHas .i64 b) (it : Bool) : Sats (envOf F2 (scsT a b it)) tal.kn := by
  refine Sats.start (scsT_ok ha hb it) _ ?_
  intro i hi
  simp only [List.mem_cons, List.not_mem_nil, or_false] at hi
  rcases hi with rfl | rfl
  · exact ⟨_, rfl⟩
  · exact ⟨_, rfl⟩


namespace sho
noncomputable def at' (j : Nat) : Bool := pxBoth sg (ansTree cxs' widS 3000 87 pat (nth j)) kn
end sho
namespace tal
noncomputable def at' (j : Nat) : Bool := pxBoth sg (ansTree cxs' widS 3000 88 pat3 (nth j)) kn
end tal

set_option maxRecDepth 100000 in
theorem sho_dec (H : ∀ j : Nat, j < sho.cases.length → sho.at' j = true) {n : Int} (hn : kHas .i64 n) (it : Bool) : ∃ p, DecP 87 [.int .i64 n, .bool it] p := by
  have so := sg_ok' (ρ := envOf F2 (scsH n it)) F2_signs
  have S := knH_ok hn it
  obtain ⟨c, hc, hcond⟩ := cas_cov so S sho.cov
  obtain ⟨j, hj, hjc⟩ := List.getElem_of_mem hc
  have hnth : sho.nth j = c := by simp only [sho.nth, List.getD, List.getElem?_eq_getElem hj, Option.getD_some, hjc]
  have hgo := H j hj
  rw [sho.at', hnth] at hgo
  exact ans_ok cxsok' rfl rfl (widS_ok (scsH_ok hn it) rfl) widS_body (scsH_ok hn it) (by intro v hv; simp [sho.pat] at hv; rcases hv with rfl | rfl <;> rfl) rfl hcond so S hgo

set_option maxRecDepth 100000 in
theorem tal_dec (H : ∀ j : Nat, j < tal.cases.length → tal.at' j = true) {a b : Int} (ha : kHas .i64 a) (hb : kHas .i64 b) (it : Bool) : ∃ p, DecP 88 [.int .i64 a, .int .i64 b, .bool it] p := by
  have so := sg_ok' (ρ := envOf F2 (scsT a b it)) F2_signs
  have S := knT_ok ha hb it
  obtain ⟨c, hc, hcond⟩ := cas_cov so S tal.cov
  obtain ⟨j, hj, hjc⟩ := List.getElem_of_mem hc
  have hnth : tal.nth j = c := by simp only [tal.nth, List.getD, List.getElem?_eq_getElem hj, Option.getD_some, hjc]
  have hgo := H j hj
  rw [tal.at', hnth] at hgo
  exact ans_ok cxsok' rfl rfl (widS_ok (scsT_ok ha hb it) rfl) widS_body (scsT_ok ha hb it) (by intro v hv; simp [tal.pat3] at hv; rcases hv with rfl | rfl | rfl <;> rfl) rfl hcond so S hgo

end Go.Proofs.YtdeelhbckfmaeaaGreatDoor
/- For the seat: slices of numbers: how they read, and how they are made. -/
namespace Go.Proofs.YtdeelhbckfmaeaaGreatDoor
open Go.RowKit Go.Sx Go.Deep

set_option maxRecDepth 100000 in
theorem intInfo : (Tryz.prog.info? 3).map (fun i => (i.zero, i.size, i.bytes)) = some (some (.int .i64 0), 1, 8) := by kernel_rfl

def encI (l : List Int) : List Value := l.map (Value.int .i64)
set_option maxRecDepth 100000 in
theorem encI_len (l : List Int) : (encI l).length = l.length := by simp [encI]
set_option maxRecDepth 100000 in
theorem encI_snoc (l : List Int) (a : Int) : encI (l ++ [a]) = encI l ++ [.int .i64 a] := by simp [encI]

/-- A slice's address, below block B, where such numbers lie. -/
def IAt (w : World) (B : Nat) (A : Option Addr) (l : List Int) : Prop :=
  l ≠ [] → ∃ g off, A = some ⟨g, off, none⟩ ∧ g < B ∧ ∀ (i : Nat) (a : Int), l[i]? = some a → w.cell? ⟨g, off + i, none⟩ = some (.int .i64 a)

set_option maxRecDepth 100000 in
theorem IAt.nil (w : World) (B : Nat) (A : Option Addr) : IAt w B A [] := fun h => absurd rfl h
set_option maxRecDepth 100000 in
theorem IAt.keep {w w' : World} {B : Nat} {A : Option Addr} {l : List Int} (h : IAt w B A l) (hk : ∀ p : Addr, p.block < B → ∀ v, w.cell? p = some v → w'.cell? p = some v) : IAt w' B A l := by
  intro hn
  obtain ⟨g, off, e, hb, hc⟩ := h hn
  exact ⟨g, off, e, hb, fun i p hp => hk _ hb _ (hc i p hp)⟩
set_option maxRecDepth 100000 in
theorem IAt.below {w w' : World} {B B' : Nat} {A : Option Addr} {l : List Int} (h : IAt w B A l) (hb : Below B' w w') (hB : B ≤ B') : IAt w' B A l := h.keep fun _ hp _ e => (hb.cell (by omega)).trans e
set_option maxRecDepth 100000 in
theorem IAt.more {w : World} {B B' : Nat} {A : Option Addr} {l : List Int} (h : IAt w B A l) (hB : B ≤ B') : IAt w B' A l := by
  intro hn
  obtain ⟨g, off, e, hb, hc⟩ := h hn
  exact ⟨g, off, e, by omega, hc⟩
set_option maxRecDepth 100000 in
theorem IAt.at_ {w : World} {B : Nat} {A : Option Addr} {l : List Int} (h : IAt w B A l) {k : Nat} (hk : k < l.length) :
    ∃ g off, A = some ⟨g, off, none⟩ ∧ g < B ∧ w.cell? ⟨g, off + k, none⟩ = some (.int .i64 l[k]) := by
  obtain ⟨g, off, e, hb, hc⟩ := h (by intro e; subst e; simp at hk)
  exact ⟨g, off, e, hb, hc k l[k] (List.getElem?_eq_getElem hk)⟩
set_option maxRecDepth 100000 in
/-- What is behind a place. -/
theorem IAt.drop {w : World} {B : Nat} {g off : Nat} {l : List Int} (h : IAt w B (some ⟨g, off, none⟩) l) (k : Nat) : IAt w B (some ⟨g, off + k, none⟩) (l.drop k) := by
  intro hn
  have hl : l ≠ [] := by rintro rfl; simp at hn
  obtain ⟨g', off', e, hb, hc⟩ := h hl
  simp only [Option.some.injEq, Addr.mk.injEq, and_true] at e
  obtain ⟨rfl, rfl⟩ := e
  refine ⟨g, off + k, rfl, hb, fun i a ha => ?_⟩
  rw [List.getElem?_drop] at ha
  have := hc (k + i) a ha
  rwa [← Nat.add_assoc] at this

set_option maxRecDepth 100000 in
theorem IAt.of_own {w : World} {base : Nat} {A : Option Addr} {cap : Nat} {l : List Int} {e : TypeId} (h : w.ownsRow base e 1 (.slice A l.length cap) l.length (encI l)) : IAt w w.heap.size A l := by
  intro hn
  rcases h.2 with ⟨hv, h0⟩ | ⟨g, cap', cur, hv, hb, hh, _, _, hs, ht⟩
  · exact absurd (List.eq_nil_of_length_eq_zero h0) hn
  · have hA : A = some ⟨g, 0, none⟩ := by injection hv
    subst hA
    refine ⟨g, 0, rfl, (Array.getElem?_eq_some_iff.1 hh).1, fun i a hp => ?_⟩
    have k1 := h.cells (g := g) rfl i (.int .i64 a) (by simp [encI, hp])
    have z : ∀ n, (⟨g, 0, none⟩ : Addr).add n = ⟨g, 0 + n, none⟩ := fun n => by unfold Addr.add; split <;> simp_all
    rw [z] at k1
    exact k1

set_option maxRecDepth 100000 in
/-- What the call owns it owns still, where all that was there is left alone. -/
theorem own_below {w w' : World} {base : Nat} {e : TypeId} {size : Nat} {v : Value} {n : Nat} {xs : List Value} (h : w.ownsRow base e size v n xs) (hb : Below w.heap.size w w') : w'.ownsRow base e size v n xs := by
  obtain ⟨h1, h2⟩ := h
  refine ⟨h1, ?_⟩
  rcases h2 with h2 | ⟨g, cap, cur, hv, hg, hh, r⟩
  · exact Or.inl h2
  · exact Or.inr ⟨g, cap, cur, hv, hg, by rw [hb.block g (Array.getElem?_eq_some_iff.1 hh).1]; exact hh, r⟩

set_option maxRecDepth 100000 in
theorem one_new (w : World) (t : TypeId) (x : Value) : ∀ (j : Nat) (u : Value), [x][j]? = some u → (w.alloc (.cells #[x] t)).cell? ((⟨w.heap.size, 0, none⟩ : Addr).add j) = some u :=
  World.news_of_block (cs := #[x]) (t := t) (fr := (0, 0)) (heap_alloc_new w _)

set_option maxRecDepth 100000 in
/-- A number is appended to numbers of the call's own. -/
theorem app_int (w0 : World) {ops : Array Oper} {rest : List Oper} {o : Oper} {a : Act} {Q : Exit → Act → World → Prop} (hgd : o.guard = none) (s x : Operand)
    (ho : o.op = .call { callee := .builtin .append, args := #[s, x], argTypes := #[31, 31] }) (base : Nat) (hbase : base ≤ w0.heap.size) (l : List Int) (b : Int) (hlen : l.length ≤ 5000000000)
    (v : Value) (hs : a.eval s = v) (hown : w0.ownsRow base 3 1 v l.length (encI l)) (g : Nat) (hx : a.eval x = .slice (some ⟨g, 0, none⟩) 1 1) (hg : g = w0.heap.size)
    (h : ∀ v' w', w'.ownsRow base 3 1 v' (l ++ [b]).length (encI (l ++ [b])) → Below base w0 w' → wpList Tryz.prog ops Q rest (a.put o.dst v') w') :
    wpList Tryz.prog ops Q (o :: rest) a (w0.alloc (.cells #[.int .i64 b] 3)) := by
  subst hg
  obtain ⟨i0, hi0, hz0, hz1, hz2⟩ := info_parts intInfo
  refine wpList_append_own _ hgd s x 31 ho base 3 i0 _ 1 8 Tryz.underlying31 hi0 hz0 hz1 hz2 rfl (by decide) v l.length (encI l) hs (hown.alloc _) ⟨w0.heap.size, 0, none⟩ 1 1 [.int .i64 b] hx rfl (one_new _ _ _)
    (fun u hu => by simp at hu; subst hu; rfl) (by unfold maxLen; omega) (by omega) (by simp; omega) ?_
  intro v' w' hown' hgrow _
  refine h v' w' (by rw [encI_snoc]; simpa using hown') ?_
  exact ((Below.refl base w0).alloc hbase _).grown hgrow (by simp; omega) (fun j hj => (hown.lt _ hj).1)

end Go.Proofs.YtdeelhbckfmaeaaGreatDoor
/- For the seat: bytes as halfwords. -/
namespace Go.Proofs.YtdeelhbckfmaeaaGreatDoor
open Go.RowKit

/-- A halfword of two bytes. -/
def halfB (a b : UInt8) : Int := bits BinOp.or IntKind.i64 (IntKind.i64.wrap (a.toNat : Int)) (IntKind.i64.wrap (IntKind.i64.wrap (b.toNat : Int) * 256))
/-- Bytes as halfwords. -/
def unpB : List UInt8 → List Int
  | [] => []
  | [a] => [IntKind.i64.wrap (a.toNat : Int)]
  | a :: b :: r => halfB a b :: unpB r

end Go.Proofs.YtdeelhbckfmaeaaGreatDoor
/- For the seat: bits.Unpack: bytes as halfwords. -/
namespace Go.Proofs.YtdeelhbckfmaeaaGreatDoor
open Go.Sx Go.ChangeShapes Go.WideShapes Go.RowKit Go.Joins Go.Deep

set_option maxRecDepth 100000 in
theorem unpB_len : ∀ l : List UInt8, (unpB l).length ≤ l.length
  | [] => Nat.le_refl _
  | [_] => Nat.le_refl _
  | a :: b :: r => by have := unpB_len r; simp only [unpB, List.length_cons]; omega

set_option maxRecDepth 100000 in
theorem halfB_has (a b : UInt8) : kHas .i64 (halfB a b) := by
  unfold halfB bits
  exact wrap_has _ _
set_option maxRecDepth 100000 in
theorem unpB_has : ∀ l : List UInt8, ∀ v ∈ unpB l, kHas .i64 v
  | [], v, h => by simp [unpB] at h
  | [a], v, h => by
    simp only [unpB, List.mem_cons, List.not_mem_nil, or_false] at h
    subst h
    exact wrap_has _ _
  | a :: b :: r, v, h => by
    simp only [unpB, List.mem_cons] at h
    rcases h with rfl | h
    · exact halfB_has a b
    · exact unpB_has r v h

set_option maxRecDepth 100000 in
/-- A number is appended to numbers of the call's own, where the order is drawn. -/
theorem step_app_int (w0 w1 : World) {ops : Array Oper} {o : Oper} {a : Act} {K : Act → World → Prop} {Q : Exit → Act → World → Prop} {E : Prop} (hgd : o.guard = none) (s x : Operand)
    (ho : o.op = .call { callee := .builtin .append, args := #[s, x], argTypes := #[31, 31] }) (base : Nat) (hbase : base ≤ w0.heap.size) (l : List Int) (b : Int) (hlen : l.length ≤ 5000000000)
    (v : Value) (hs : a.eval s = v) (hown : w0.ownsRow base 3 1 v l.length (encI l)) (g : Nat) (hx : a.eval x = .slice (some ⟨g, 0, none⟩) 1 1) (hg : g = w0.heap.size) (hw1 : w1 = w0.alloc (.cells #[.int .i64 b] 3))
    (h : ∀ v' w', w'.ownsRow base 3 1 v' (l ++ [b]).length (encI (l ++ [b])) → Below base w0 w' → K (a.put o.dst v') w') :
    if Region.wanted o (yielded ops a.tmps) = true then Oper.wp Tryz.prog o a w1 K Q else E := by
  subst hg hw1
  obtain ⟨i0, hi0, hz0, hz1, hz2⟩ := info_parts intInfo
  refine step_append_lies _ hgd s x 31 ho base 3 i0 _ 1 8 Tryz.underlying31 hi0 hz0 hz1 hz2 rfl (by decide) v l.length (encI l) hs (hown.alloc _) ⟨w0.heap.size, 0, none⟩ 1 1 [.int .i64 b] hx rfl (one_new _ _ _)
    (fun u hu => by simp at hu; subst hu; rfl) (by decide) (by unfold maxLen; omega) (by omega) (by simp; omega) _ rfl ?_
  intro g cap w' hown' hgrow _ _
  refine h _ w' (by rw [encI_snoc]; simpa using hown') ?_
  exact ((Below.refl base w0).alloc hbase _).grown hgrow (by simp; omega) (fun j hj => (hown.lt _ hj).1)

set_option maxRecDepth 100000 in
theorem own_out {w : World} {base : Nat} {v : Value} {l : List Int} (h : w.ownsRow base 3 1 v l.length (encI l)) : ∃ A cap, v = .slice A l.length cap ∧ IAt w w.heap.size A l ∧ l.length ≤ cap := by
  rcases h.2 with ⟨hv, h0⟩ | ⟨g, cap, cur, hv, hb, hh, hc, _⟩
  · obtain rfl := List.eq_nil_of_length_eq_zero h0
    exact ⟨none, 0, hv, IAt.nil _ _ _, Nat.zero_le _⟩
  · subst hv
    exact ⟨_, cap, rfl, IAt.of_own h, hc⟩

set_option maxRecDepth 100000 in
set_option maxHeartbeats 1000000 in
theorem unpack_any (s : ByteArray) (w : World) (hs : s.size ≤ 4000000000) :
    Calls Tryz.prog 52 #[.string s] w fun e w' => ∃ A cap, e = .returned (.slice A (unpB s.data.toList).length cap) ∧ IAt w' w'.heap.size A (unpB s.data.toList) ∧ (unpB s.data.toList).length ≤ cap ∧ Below w.heap.size w w' := by
  go_enter Tryz.func52, Tryz.ntmps52
  go_wp2
  go_loopw [0, 3] (fun t v wr => ∃ (b : ByteArray) (pre : List Int), t = .string b ∧ unpB s.data.toList = pre ++ unpB b.data.toList ∧ b.size ≤ s.size ∧ wr.ownsRow w.heap.size 3 1 v pre.length (encI pre) ∧ Below w.heap.size w wr) (fun t _ _ => match t with | .string b => b.size | _ => 0)
  case atStart => exact ⟨s, [], rfl, rfl, Nat.le_refl _, World.ownsRow_nil _ _ _ _, Below.refl _ _⟩
  case round =>
    obtain ⟨b, pre, rfl, hp, hbs, hown, hbr⟩ := hrel
    have hpl : pre.length ≤ s.size := by
      have := congrArg List.length hp
      rw [List.length_append] at this
      have h2 := unpB_len s.data.toList
      have h3 : s.data.toList.length = s.size := rfl
      omega
    have HP := Lib.hid hp
    clear hp
    by_cases h1 : 1 < b.size
    · have e1 : decide ((1 : Int) < (b.size : Int)) = true := decide_eq_true (by omega)
      have h0 : (0 : Nat) < b.size := by omega
      go_wp2_with fail
      go_region_held_law (fun _ => True) (trivial) (first | (refine step_app_int wr.drew _ rfl _ _ rfl w.heap.size hbr.size pre _ (by omega) _ rfl hown _ rfl rfl rfl ?_; intro v2 w2 hown2 hb2))
      go_wp2
      all_goals
        have hsz : b.data.toList.length = b.size := rfl
        obtain ⟨p, q, r, hb⟩ : ∃ p q r, b.data.toList = p :: q :: r := by
          match hl : b.data.toList with
          | [] => rw [hl] at hsz; simp at hsz; omega
          | [_] => rw [hl] at hsz; simp at hsz; omega
          | p :: q :: r => exact ⟨p, q, r, rfl⟩
        have hbl : b.size = r.length + 2 := by rw [← hsz, hb]; rfl
        have hx : (b.extract 2 b.size).data.toList = r := by
          rw [Lib.extract_data, hb, hbl]
          simp
        have hxs : (b.extract 2 b.size).size = r.length := by
          rw [← hx]; rfl
        have x0 : b[0] = p := by
          show b.data[0] = p
          rw [← Array.getElem_toList]; simp [hb]
        have x1 : b[1] = q := by
          show b.data[1] = q
          rw [← Array.getElem_toList]; simp [hb]
        refine ⟨⟨_, _, rfl, ?_, ?_, hown2, hbr.drew.trans hb2⟩, ?_⟩
        · rw [hx, HP.out, hb, x0, x1, List.append_assoc]; rfl
        · omega
        · show (b.extract 2 b.size).size < b.size
          omega
    · have e1 : decide ((1 : Int) < (b.size : Int)) = false := decide_eq_false (by omega)
      by_cases h2 : b.size = 1
      · have e2 : ((b.size : Int) == 1) = true := by rw [h2]; rfl
        have h0 : (0 : Nat) < b.size := by omega
        go_wp2_with (at_builtin; refine app_int wr rfl _ _ rfl w.heap.size hbr.size pre (wrap64 (b[0].toNat : Int)) (by omega) _ rfl ?_ _ rfl rfl ?_; exact hown; intro v2 w2 hown2 hb2)
        have hsz : b.data.toList.length = b.size := rfl
        obtain ⟨p, hb⟩ : ∃ p, b.data.toList = [p] := by
          match hl : b.data.toList with
          | [] => rw [hl] at hsz; simp at hsz; omega
          | [p] => exact ⟨p, rfl⟩
          | p :: q :: r => rw [hl] at hsz; simp at hsz; omega
        have x0 : b[0] = p := by
          show b.data[0] = p
          rw [← Array.getElem_toList]; simp [hb]
        have hfin : unpB s.data.toList = pre ++ [wrap64 (b[0].toNat : Int)] := by
          rw [HP.out, hb, x0, ← IntWalk.i64_left]; rfl
        rw [hfin]
        obtain ⟨A, cap, rfl, hA, hc⟩ := own_out hown2
        exact bodyPost_ret (results_tmp rfl _ _ _) rfl ⟨A, cap, rfl, hA, hc, hbr.trans hb2⟩
      · have e2 : ((b.size : Int) == 1) = false := by simpa using fun h => h2 (by omega)
        go_wp2_with fail
        have hb : b.data.toList = [] := by
          have hsz : b.data.toList.length = b.size := rfl
          exact List.eq_nil_of_length_eq_zero (by omega)
        have hfin : unpB s.data.toList = pre := by
          rw [HP.out, hb]; exact List.append_nil _
        rw [hfin]
        obtain ⟨A, cap, rfl, hA, hc⟩ := own_out hown
        exact bodyPost_ret (results_tmp rfl _ _ _) rfl ⟨A, cap, rfl, hA, hc, hbr⟩
#print axioms unpack_any
end Go.Proofs.YtdeelhbckfmaeaaGreatDoor
/- For the seat: the reference's Ror and Expand. -/
namespace Go.Proofs.YtdeelhbckfmaeaaGreatDoor
open Go.Sx Go.ChangeShapes Go.WideShapes Go.RowKit Go.Joins Go.Deep

/-- Turned right, step by step. -/
def rorR : Nat → Int → Int
  | 0, y => y
  | i + 1, y => rorR i (bits .or .u32 (y / 2) (y * 2147483648 % 4294967296))

set_option maxRecDepth 100000 in
set_option maxHeartbeats 1000000 in
theorem rorR_any (x : Int) (N : Nat) (hN : N < 32) (w : World) :
    Calls Tryz.prog 299 #[.int .u32 x, .int .i64 N] w fun e w' => e = .returned (.int .u32 (rorR N x)) ∧ Below w.heap.size w w' := by
  have e1 : Int.tmod (N : Int) 32 = N := by rw [Int.tmod_eq_emod_of_nonneg (by omega)]; omega
  have e2 : decide ((N : Int) < 0) = false := decide_eq_false (by omega)
  generalize hR : rorR N x = R
  go_enter Tryz.func299, Tryz.ntmps299
  go_wp2
  go_loopw [0, 1] (fun a b wr => ∃ (i : Nat) (y : Int), i ≤ N ∧ b = .int .i64 i ∧ a = .int .u32 y ∧ R = rorR i y ∧ Below w.heap.size w wr) (fun _ b _ => (intOf b).toNat)
  case atStart => exact ⟨N, x, Nat.le_refl _, rfl, rfl, hR.symm, Below.refl _ _⟩
  case round =>
    obtain ⟨i, y, hi, rfl, rfl, hr, hbr⟩ := hrel
    by_cases hlt : 0 < i
    · have e3 : decide ((0 : Int) < (i : Int)) = true := decide_eq_true (by omega)
      have e4 : IntKind.i64.wrap ((i : Int) - 1) = (i : Int) - 1 := IntWalk.i64_in _ (by omega)
      go_wp2
      go_roundw
      case rel =>
        obtain ⟨j, rfl⟩ : ∃ j, i = j + 1 := ⟨i - 1, by omega⟩
        exact ⟨j, _, by omega, by go_num, rfl, hr, hbr⟩
      case measure => simp [intOf]; omega
    · have e : i = 0 := by omega
      subst e
      have e3 : decide ((0 : Int) < ((0 : Nat) : Int)) = false := rfl
      have hr' : R = y := hr
      subst hr'
      clear hr hR
      go_wp2
      exact bodyPost_ret (results_tmp rfl _ _ _) rfl ⟨rfl, hbr⟩

/-- The number of twelve bits, as the reference has it. -/
def expR2 (x : Int) : Int :=
  if x % 4096 / 256 = 0 then x % 4096 % 256 else if x % 4096 / 256 = 1 then bits .or .u32 (x % 256 * 65536) (x % 256) else
  if x % 4096 / 256 = 2 then bits .or .u32 (x % 256 * 16777216) (x % 256 * 256) else
  if x % 4096 / 256 = 3 then bits .or .u32 (bits .or .u32 (bits .or .u32 (x % 256 * 16777216) (x % 256 * 65536)) (x % 256 * 256)) (x % 256) else
  rorR (x % 4096 / 128).toNat (x % 128 + 128)

set_option maxRecDepth 100000 in
set_option maxHeartbeats 1000000 in
theorem expR_any (x : Int) (w : World) :
    Calls Tryz.prog 205 #[.int .i64 x] w fun e w' => e = .returned (.int .u32 (expR2 x)) ∧ Below w.heap.size w w' := by
  generalize hE : expR2 x = E
  unfold expR2 at hE
  have hC : ∀ w', Calls Tryz.prog 299 #[.int .u32 (x % 128 + 128), .int .i64 (x % 4096 / 128)] w' fun e w'' => e = .returned (.int .u32 (rorR (x % 4096 / 128).toNat (x % 128 + 128))) ∧ Below w'.heap.size w' w'' := by
    intro w'
    have := rorR_any (x % 128 + 128) (x % 4096 / 128).toNat (by omega) w'
    rwa [Int.toNat_of_nonneg (by omega)] at this
  by_cases h0 : x % 4096 / 256 = 0
  · have f0 : (x % 4096 / 256 == 0) = true := beq_iff_eq.2 h0
    rw [if_pos h0] at hE
    subst hE
    clear h0 hC
    go_enter Tryz.func205, Tryz.ntmps205
    go_wp2
    exact bodyPost_ret (results_tmp rfl _ _ _) rfl ⟨rfl, Below.refl _ _⟩
  have f0 : (x % 4096 / 256 == 0) = false := beq_eq_false_iff_ne.2 h0
  by_cases h1 : x % 4096 / 256 = 1
  · have f1 : (x % 4096 / 256 == 1) = true := beq_iff_eq.2 h1
    rw [if_neg h0] at hE
    rw [if_pos h1] at hE
    subst hE
    clear h0 h1 hC
    go_enter Tryz.func205, Tryz.ntmps205
    go_wp2
    exact bodyPost_ret (results_tmp rfl _ _ _) rfl ⟨rfl, Below.refl _ _⟩
  have f1 : (x % 4096 / 256 == 1) = false := beq_eq_false_iff_ne.2 h1
  by_cases h2 : x % 4096 / 256 = 2
  · have f2 : (x % 4096 / 256 == 2) = true := beq_iff_eq.2 h2
    rw [if_neg h0] at hE
    rw [if_neg h1] at hE
    rw [if_pos h2] at hE
    subst hE
    clear h0 h1 h2 hC
    go_enter Tryz.func205, Tryz.ntmps205
    go_wp2
    exact bodyPost_ret (results_tmp rfl _ _ _) rfl ⟨rfl, Below.refl _ _⟩
  have f2 : (x % 4096 / 256 == 2) = false := beq_eq_false_iff_ne.2 h2
  by_cases h3 : x % 4096 / 256 = 3
  · have f3 : (x % 4096 / 256 == 3) = true := beq_iff_eq.2 h3
    rw [if_neg h0] at hE
    rw [if_neg h1] at hE
    rw [if_neg h2] at hE
    rw [if_pos h3] at hE
    subst hE
    clear h0 h1 h2 h3 hC
    go_enter Tryz.func205, Tryz.ntmps205
    go_wp2
    exact bodyPost_ret (results_tmp rfl _ _ _) rfl ⟨rfl, Below.refl _ _⟩
  have f3 : (x % 4096 / 256 == 3) = false := beq_eq_false_iff_ne.2 h3
  rw [if_neg h0, if_neg h1, if_neg h2, if_neg h3] at hE
  clear h0 h1 h2 h3
  generalize rorR (x % 4096 / 128).toNat (x % 128 + 128) = R at hC hE
  subst hE
  go_enter Tryz.func205, Tryz.ntmps205
  go_wp2_with fail
  ((with_reducible refine (hC _).mono ?_); rintro e w3 ⟨rfl, hb⟩)
  go_wp2
  exact bodyPost_ret (results_tmp rfl _ _ _) rfl ⟨rfl, hb⟩


set_option maxRecDepth 100000 in
/-- The low bits of a number. -/
theorem and_low (x : Int) {s : Nat} (hs : s < 63) : bitsOp .i64 (fun a b => a &&& b) x (.ofNat (2 ^ s - 1)) = x % 2 ^ s := by
  have hp : (0 : Int) < 2 ^ s := Int.pow_pos (by omega)
  have m0 := Int.emod_nonneg x (Int.ne_of_gt hp)
  have m1 := Int.emod_lt_of_pos x hp
  have hn : (2 : Nat) ^ s < 2 ^ 63 := Nat.pow_lt_pow_right (by omega) hs
  have hn2 : ((2 : Int) ^ s) < 2 ^ 63 := by exact_mod_cast hn
  refine (eq_of_has (k := .i64) (has64 (by omega) (by omega)) (bitsOp_has _ _ _ _) fun i hi => ?_).symm
  rw [andF_bit _ _ _ hi, low_bit]
  by_cases his : i < s
  · rw [bitI_emod _ _ _ his]; simp [his]
  · rw [bitI_high _ s i (by omega) m1 (by omega)]
    simp [his]; omega

set_option maxRecDepth 100000 in
theorem shr_div (y : Int) (c : Nat) (hc : c < 64) : shrOp .i64 y (.ofNat c) = y / 2 ^ c := by
  have hb : IntKind.i64.bits = 64 := rfl
  unfold shrOp
  rw [show (Int.ofNat c).toNat = c from rfl, hb, Nat.min_eq_left (by omega), Int.fdiv_eq_ediv_of_nonneg _ (Int.le_of_lt (Int.pow_pos (by omega)))]

set_option maxRecDepth 100000 in
theorem and_low' {x y : Int} {s : Nat} (hs : s < 63) (h : x % 2 ^ s = y % 2 ^ s) : bitsOp .i64 (fun a b => a &&& b) x (.ofNat (2 ^ s - 1)) = bitsOp .i64 (fun a b => a &&& b) y (.ofNat (2 ^ s - 1)) := by
  rw [and_low _ hs, and_low _ hs, h]

set_option maxRecDepth 100000 in
theorem expT_low (x : Int) : (ex.expT.den (envOf F [.int x])) = (ex.expT.den (envOf F [.int (x % 4096)])) := by
  have a1 : (ex.and ex.x0 255).den (envOf F [.int x]) = (ex.and ex.x0 255).den (envOf F [.int (x % 4096)]) :=
    congrArg Sc.int (and_low' (x := x) (y := x % 4096) (s := 8) (by omega) (by omega))
  have a2 : ex.top.den (envOf F [.int x]) = ex.top.den (envOf F [.int (x % 4096)]) :=
    congrArg Sc.int (and_low' (x := shrOp .i64 x (.ofNat 8)) (y := shrOp .i64 (x % 4096) (.ofNat 8)) (s := 4) (by omega) (by rw [shr_div _ _ (by omega), shr_div _ _ (by omega)]; omega))
  have a3 : (ex.and (.op2 (.shr .i64) ex.x0 (.num 7)) 31).den (envOf F [.int x]) = (ex.and (.op2 (.shr .i64) ex.x0 (.num 7)) 31).den (envOf F [.int (x % 4096)]) :=
    congrArg Sc.int (and_low' (x := shrOp .i64 x (.ofNat 7)) (y := shrOp .i64 (x % 4096) (.ofNat 7)) (s := 5) (by omega) (by rw [shr_div _ _ (by omega), shr_div _ _ (by omega)]; omega))
  generalize envOf F [.int x] = η at a1 a2 a3
  generalize envOf F [.int (x % 4096)] = η' at a1 a2 a3
  simp only [ex.expT, ex.is, ex.b, ex.c, ex.k, ex.by', Tm.den, a1, a2, a3]

set_option maxRecDepth 100000 in
theorem expR2_low (x : Int) : expR2 x = expR2 (x % 4096) := by
  unfold expR2
  rw [show x % 4096 % 4096 = x % 4096 by omega, show x % 4096 % 128 = x % 128 by omega, show x % 4096 % 256 = x % 256 by omega]

set_option maxRecDepth 100000 in
theorem exp_law : ((List.range 4096).all fun m => expR2 (m : Int) == (ex.expT.den (envOf F [.int (m : Int)])).asInt) = true := by kernel_rfl

set_option maxRecDepth 100000 in
theorem expR2_eq (x : Int) : expR2 x = (ex.expT.den (envOf F [.int x])).asInt := by
  rw [expR2_low, expT_low]
  obtain ⟨m, hm⟩ := Int.eq_ofNat_of_zero_le (Int.emod_nonneg x (show (4096 : Int) ≠ 0 by omega))
  have h := List.all_eq_true.1 exp_law m (List.mem_range.2 (by omega))
  rw [hm]
  exact eq_of_beq h

set_option maxRecDepth 100000 in
theorem callOk_of {ρ : Env} {G : Globs} {P : Program} {f : FuncId} {args : List SVal} {v : SVal}
    (h : ∀ (ι : Nm) (w : World), Calls P f (args.map (·.conc ρ ι)).toArray w fun e w' => e = .returned (v.conc ρ ι) ∧ Below w.heap.size w w') (hv : v.sc 0 = true) : CallOk ρ G P f args [] ⟨v, [], .bit true⟩ :=
  fun _ _ ι w H _ => (h ι w).mono fun _ _ ⟨he, hb⟩ => ⟨ι, Nm.Ext.refl _ _, Nat.le_refl _, H.under hb, hv, rfl, he⟩

set_option maxRecDepth 100000 in
theorem expR_call {ρ : Env} (V : VarsOk ρ) (hF : ρ.f 920 = F1 920) : ∀ args h pc x, (pc.den ρ).asBool = true → (specR ex.pat1 ex.expR args h pc).get ρ = some x → CallOk ρ cx.globs cx.P 205 args h x := by
  refine specR_ok V globsC rfl (by intro u hu; simp [ex.pat1, SVal.toList] at hu; subst hu; rfl) (fun _ => rfl) ?_
  intro L hL hp
  match L, hL with
  | [s], _ =>
    refine ⟨envOf F [.int s.asInt], ⟨.int .u32 ex.expT, [], .bit true⟩, rfl, callOk_of (fun ι w => ?_) rfl, fun ι => rfl, ?_⟩
    · have h := expR_any s.asInt w
      rw [expR2_eq] at h
      exact h
    · intro t ι ι' ht
      simp only [SVal.conc, ex.expR, Tm.den, ht, hF]
      rfl

set_option maxRecDepth 100000 in
theorem valT_eq (x : Int) : (ex.valT.den (envOf F [.int x])).asBool = (decide (0 ≤ x) && (decide (x < 4096) && ((x / 256 == 0) || (decide (3 < x / 256) || !(x % 256 == 0))))) := by
  have e1 : shrOp .i64 x (.ofNat 8) = x / 256 := shr_div x 8 (by omega)
  have e2 : bitsOp .i64 (fun a b => a &&& b) x (.ofNat (2 ^ 8 - 1)) = x % 256 := and_low x (s := 8) (by omega)
  have : (ex.valT.den (envOf F [.int x])).asBool = (decide (0 ≤ x) && (decide (x < 4096) && ((shrOp .i64 x (.ofNat 8) == 0) || (decide (3 < shrOp .i64 x (.ofNat 8)) || !(bitsOp .i64 (fun a b => a &&& b) x (.ofNat (2 ^ 8 - 1)) == 0))))) := rfl
  rw [this, e1, e2]

set_option maxRecDepth 100000 in
set_option maxHeartbeats 1000000 in
theorem valR_any (x : Int) (w : World) :
    Calls Tryz.prog 204 #[.int .i64 x] w fun e w' => e = .returned (.bool (ex.valT.den (envOf F [.int x])).asBool) ∧ Below w.heap.size w w' := by
  generalize hV : (ex.valT.den (envOf F [.int x])).asBool = V
  rw [valT_eq] at hV
  have hV' : Hid ((decide (0 ≤ x) && (decide (x < 4096) && ((x / 256 == 0) || (decide (3 < x / 256) || !(x % 256 == 0))))) = V) := Lib.hid hV
  clear hV
  by_cases h0 : 0 ≤ x
  · have f0 : decide (x < 0) = false := decide_eq_false (by omega)
    have f0' : decide (0 ≤ x) = true := decide_eq_true h0
    have e1 : Int.tdiv x 256 = x / 256 := Int.tdiv_eq_ediv_of_nonneg h0
    have e2 : Int.tmod x 256 = x % 256 := Int.tmod_eq_emod_of_nonneg h0
    go_enter Tryz.func204, Tryz.ntmps204
    go_wp2
    all_goals (refine bodyPost_ret (results_tmp rfl _ _ _) rfl ⟨?_, Below.refl _ _⟩)
    · show Ending.returned (Value.bool (!(x % 256 == 0))) = _
      rw [← hV'.out, f0', decide_eq_true (show x < 4096 by omega), beq_eq_false_iff_ne.2 (show x / 256 ≠ 0 by omega), decide_eq_false (show ¬ 3 < x / 256 by omega)]
      simp
    · show Ending.returned (Value.bool true) = _
      rw [← hV'.out, f0', decide_eq_true (show x < 4096 by omega), decide_eq_true (show 3 < x / 256 by omega)]
      simp
    · show Ending.returned (Value.bool true) = _
      rw [← hV'.out, f0', decide_eq_true (show x < 4096 by omega), beq_iff_eq.2 (show x / 256 = 0 by omega)]
      simp
    · show Ending.returned (Value.bool false) = _
      rw [← hV'.out, f0', decide_eq_false (show ¬ x < 4096 by omega)]
      simp
  · have f0 : decide (x < 0) = true := decide_eq_true (by omega)
    have f0' : decide (0 ≤ x) = false := decide_eq_false h0
    go_enter Tryz.func204, Tryz.ntmps204
    go_wp2
    refine bodyPost_ret (results_tmp rfl _ _ _) rfl ⟨?_, Below.refl _ _⟩
    show Ending.returned (Value.bool false) = _
    rw [← hV'.out, f0']
    simp

set_option maxRecDepth 100000 in
theorem valR_call {ρ : Env} (V : VarsOk ρ) (hF : ρ.f 921 = F1 921) : ∀ args h pc x, (pc.den ρ).asBool = true → (specR ex.pat1 ex.valR args h pc).get ρ = some x → CallOk ρ cx.globs cx.P 204 args h x := by
  refine specR_ok V globsC rfl (by intro u hu; simp [ex.pat1, SVal.toList] at hu; subst hu; rfl) (fun _ => rfl) ?_
  intro L hL hp
  match L, hL with
  | [s], _ =>
    refine ⟨envOf F [.int s.asInt], ⟨.bool ex.valT, [], .bit true⟩, rfl, callOk_of (fun ι w => valR_any s.asInt w) rfl, fun ι => rfl, ?_⟩
    intro t ι ι' ht
    simp only [SVal.conc, ex.valR, Tm.den, ht, hF]
    rfl

/-- An instruction without operation is refused at once. -/
def chkR0 (t : Tm) : SVal := match t with
  | .cons (.num 0) _ => .int .i64 (.num 6)
  | t => chkR t

set_option maxRecDepth 100000 in
theorem chk_call0 {f : Nat} (A : chk.All f) {ρ : Env} (V : VarsOk ρ) (hF : Signs ρ.f) : ∀ args h pc x, (pc.den ρ).asBool = true → (specR chkPat chkR0 args h pc).get ρ = some x → CallOk ρ cx.globs cx.P f args h x := by
  refine specR_ok V globsC rfl (by intro u hu; simp [chkPat, SVal.toList] at hu; subst hu; rfl) (fun t => by unfold chkR0; split <;> rfl) ?_
  intro L hL hp
  match L, hL with
  | [s0, s1, s2, s3, s4, s5, s6, s7, s8], _ =>
    obtain ⟨⟨p0, p1, p2, p3, p4, p5, p6, p7, _⟩, _⟩ := hp
    let x : Fields := ⟨s0.asInt, s1.asInt, s2.asInt, s3.asInt, s4.asInt, s5.asInt, s6.asInt, s7.asInt, s8.asBool⟩
    obtain ⟨x', hc, hv⟩ := chk_all A (x := x) ⟨p0, p1, p2, p3, p4, p5, p6, p7⟩
    refine ⟨envOf F x.scs, x', rfl, hc, fun ι => rfl, ?_⟩
    intro t ι ι' ht
    rw [hv ι']
    unfold chkR0
    split
    · have e0 : s0 = .int 0 := by
        simp only [Tm.den, Sc.asList, List.cons.injEq] at ht
        exact ht.1.symm
      subst e0
      rfl
    · simp only [SVal.conc, chkR, Tm.den, ht, hF.s901]
      exact congrArg _ (chk_norm s0 s1 s2 s3 s4 s5 s6 s7 s8)

end Go.Proofs.YtdeelhbckfmaeaaGreatDoor
/- For the seat: the reference's count of a list's registers. -/
namespace Go.Proofs.YtdeelhbckfmaeaaGreatDoor
open Go.Sx Go.ChangeShapes Go.WideShapes Go.RowKit Go.Joins Go.Deep

/-- The ones of some bits, from a place on. -/
def onesR : Nat → Nat → Nat → List Int
  | 0, _, _ => []
  | k + 1, i, m => if (m % 2 == 1) = true then (i : Int) :: onesR k (i + 1) (m / 2) else onesR k (i + 1) (m / 2)

set_option maxRecDepth 100000 in
theorem onesR_len : ∀ k i m, (onesR k i m).length = Ones.popN k m
  | 0, _, _ => rfl
  | k + 1, i, m => by
    have h := onesR_len k (i + 1) (m / 2)
    unfold onesR Ones.popN
    split
    · rename_i h1
      have := eq_of_beq h1
      rw [List.length_cons, h]; omega
    · rename_i h1
      have h2 : ¬ m % 2 = 1 := fun e => h1 (beq_iff_eq.2 e)
      rw [h]; omega

set_option maxRecDepth 100000 in
theorem onesR_le : ∀ k i m, (onesR k i m).length ≤ k
  | 0, _, _ => Nat.le_refl _
  | k + 1, i, m => by
    have h := onesR_le k (i + 1) (m / 2)
    unfold onesR
    split
    · rw [List.length_cons]; omega
    · omega

set_option maxRecDepth 100000 in
set_option maxHeartbeats 1000000 in
theorem hasR_any (n i : Nat) (hi : i < 16) (w : World) :
    Calls Tryz.prog 366 #[.int .i64 n, .int .i64 i] w fun e w' => e = .returned (.bool (n / 2 ^ i % 2 == 1)) ∧ w' = w := by
  have hb : (bits BinOp.and IntKind.i64 ((n : Int) / 2 ^ i) 1 == 1) = (n / 2 ^ i % 2 == 1) := by
    have h1 : bits BinOp.and IntKind.i64 ((n : Int) / 2 ^ i) 1 = ((n : Int) / 2 ^ i) % 2 := and_low _ (s := 1) (by omega)
    have h2 : ((n : Int) / 2 ^ i) % 2 = ((n / 2 ^ i % 2 : Nat) : Int) := by push_cast; rfl
    rw [h1, h2]
    generalize n / 2 ^ i % 2 = q
    cases h : (q == 1) with
    | true => have := eq_of_beq h; subst this; rfl
    | false => have := beq_eq_false_iff_ne.1 h; exact beq_eq_false_iff_ne.2 (by omega)
  generalize (n / 2 ^ i % 2 == 1) = V at hb
  go_enter Tryz.func366, Tryz.ntmps366
  go_wp2
  exact bodyPost_ret (results_tmp rfl _ _ _) rfl ⟨by rw [← hb]; rfl, rfl⟩

set_option maxRecDepth 100000 in
set_option maxHeartbeats 1000000 in
theorem allR_any (n : Nat) (w : World) :
    Calls Tryz.prog 298 #[.int .i64 n] w fun e w' => ∃ A cap, e = .returned (.slice A (onesR 16 0 n).length cap) ∧ Below w.heap.size w w' := by
  go_enter Tryz.func298, Tryz.ntmps298
  generalize hL : onesR 16 0 n = L
  go_wp2
  go_loopw [3, 4] (fun v k wr => ∃ (i : Nat) (pre : List Int), k = .int .i64 i ∧ i ≤ 16 ∧ L = pre ++ onesR (16 - i) i (n / 2 ^ i) ∧ pre.length ≤ i ∧ wr.ownsRow w.heap.size 3 1 v pre.length (encI pre) ∧ Below w.heap.size w wr) (fun _ k _ => 16 - (intOf k).toNat)
  case atStart => exact ⟨0, [], rfl, by omega, by rw [← hL]; simp, Nat.zero_le _, World.ownsRow_nil _ _ _ _, Below.refl _ _⟩
  case round =>
    obtain ⟨i, pre, rfl, hi, hp, hpl, hown, hbr⟩ := hrel
    by_cases hlt : i < 16
    · have e1 : decide ((i : Int) < 16) = true := decide_eq_true (by omega)
      have hadd : IntKind.i64.wrap ((i : Int) + 1) = (i : Int) + 1 := IntWalk.i64_in _ (by omega)
      obtain ⟨k, hk⟩ : ∃ k, 16 - i = k + 1 := ⟨15 - i, by omega⟩
      have hk2 : 16 - (i + 1) = k := by omega
      have hdiv : n / 2 ^ i / 2 = n / 2 ^ (i + 1) := by rw [Nat.div_div_eq_div_mul, Nat.pow_succ]
      rw [hk] at hp
      unfold onesR at hp
      rw [hdiv] at hp
      have hH := hasR_any n i hlt wr
      cases hb : (n / 2 ^ i % 2 == 1) with
      | true =>
        rw [hb] at hH
        rw [if_pos hb] at hp
        have HP := Lib.hid hp
        clear hp hb
        go_wp2_with fail
        ((with_reducible refine hH.mono ?_); rintro e w3 ⟨rfl, rfl⟩)
        go_wp2_with (at_builtin; refine app_int w3 rfl _ _ rfl w.heap.size hbr.size pre (i : Int) (by omega) _ rfl ?_ _ rfl rfl ?_; exact hown; intro v2 w2 hown2 hb2)
        refine ⟨⟨i + 1, pre ++ [(i : Int)], by go_num, by omega, ?_, by rw [List.length_append]; show pre.length + 1 ≤ i + 1; omega, hown2, hbr.trans hb2⟩, ?_⟩
        · rw [HP.out, hk2, List.append_assoc]; rfl
        · simp [intOf]; omega
      | false =>
        rw [hb] at hH
        rw [if_neg (by rw [hb]; exact Bool.false_ne_true)] at hp
        have HP := Lib.hid hp
        clear hp hb
        go_wp2_with fail
        ((with_reducible refine hH.mono ?_); rintro e w3 ⟨rfl, rfl⟩)
        go_wp2
        go_roundw
        case rel => exact ⟨i + 1, pre, by go_num, by omega, by rw [hk2]; exact HP.out, by omega, hown, hbr⟩
        case measure => simp [intOf]; omega
    · have hi16 : i = 16 := by omega
      subst hi16
      have e1 : decide (((16 : Nat) : Int) < 16) = false := rfl
      have hfin : L = pre := by rw [hp]; exact List.append_nil _
      clear hp
      go_wp2_with fail
      rw [hfin]
      obtain ⟨A, cap, rfl, hA, hc⟩ := own_out hown
      exact bodyPost_ret (results_tmp rfl _ _ _) rfl ⟨A, cap, rfl, hbr⟩

set_option maxRecDepth 100000 in
set_option maxHeartbeats 1000000 in
theorem countR_any (n : Nat) (hn : n < 65536) (w : World) :
    Calls Tryz.prog 200 #[.int .i64 n] w fun e w' => e = .returned (.int .i64 (popI n)) ∧ Below w.heap.size w w' := by
  have hH := allR_any n w
  rw [Ones.popI_small n hn, ← onesR_len 16 0 n]
  generalize onesR 16 0 n = L at hH
  go_enter Tryz.func200, Tryz.ntmps200
  go_wp2_with fail
  ((with_reducible refine hH.mono ?_); rintro e w3 ⟨A, cap, rfl, hb3⟩)
  go_wp2
  exact bodyPost_ret (results_tmp rfl _ _ _) rfl ⟨rfl, hb3⟩

def cntCond (ts : List Tm) : List Tm := [.op2 .le (.num 0) (ts.getD 0 (.num 0)), .op2 .le (ts.getD 0 (.num 0)) (.num 65535)]

set_option maxRecDepth 100000 in
theorem countR_call {ρ : Env} (V : VarsOk ρ) (hF : ρ.f 900 = F 900) : ∀ args h pc x, (pc.den ρ).asBool = true → (specC ex.pat1 cntCond popR args h pc).get ρ = some x → CallOk ρ cx.globs cx.P 200 args h x := by
  refine specC_ok V globsC rfl (by intro u hu; simp [ex.pat1, SVal.toList] at hu; subst hu; rfl) (fun _ => rfl) ?_
  intro ts hl hp hc
  match ts, hl with
  | [t], _ =>
    have c1 : 0 ≤ (t.den ρ).asInt := of_decide_eq_true (hc (.op2 .le (.num 0) t) (by simp [cntCond]))
    have c2 : (t.den ρ).asInt ≤ 65535 := of_decide_eq_true (hc (.op2 .le t (.num 65535)) (by simp [cntCond]))
    obtain ⟨n, hn⟩ := Int.eq_ofNat_of_zero_le c1
    have hn16 : n < 65536 := by omega
    refine ⟨envOf F0 [.int (n : Int)], ⟨.int .i64 (.num (popI (n : Int))), [], .bit true⟩, rfl, callOk_of (fun ι w => countR_any n hn16 w) rfl, ?_, ?_⟩
    · intro ι
      simp only [ex.pat1, SVal.concL, SVal.conc, Tm.den, envOf, envA, envA, List.map_cons, List.map_nil, List.getD_cons_zero, Sc.asInt_int, hn]
    · intro u ι ι' hu
      simp only [SVal.conc, popR, Tm.den, hu, hF]
      have : F 900 [t.den ρ] = .int (popI (n : Int)) := by
        show Sc.int (popI (t.den ρ).asInt) = _
        rw [hn]
      simp only [List.map_cons, List.map_nil]
      rw [this]

/-- What the reference's walks know: the reference's Expand, Valid, Count too; its Check refuses at once what has no operation. -/
def widR : Specs := fun f => match Nat.beq f 205 with
  | true => some (specR ex.pat1 ex.expR)
  | false => match Nat.beq f 204 with
    | true => some (specR ex.pat1 ex.valR)
    | false => match Nat.beq f 130 with
      | true => some (specR chkPat chkR0)
      | false => match Nat.beq f 200 with
        | true => some (specC ex.pat1 cntCond popR)
        | false => widS f

set_option maxRecDepth 100000 in
theorem widR_ok {ρ : Env} (V : VarsOk ρ) (hF : ρ.f = F2) : widR.Ok ρ cx := by
  intro f sp h
  simp only [widR] at h
  split at h
  · rename_i hf
    have := Nat.eq_of_beq_eq_true hf
    subst this
    simp only [Option.some.injEq] at h
    subst h
    exact expR_call V (by rw [hF]; rfl)
  · split at h
    · rename_i hf
      have := Nat.eq_of_beq_eq_true hf
      subst this
      simp only [Option.some.injEq] at h
      subst h
      exact valR_call V (by rw [hF]; rfl)
    · split at h
      · rename_i hf
        have := Nat.eq_of_beq_eq_true hf
        subst this
        simp only [Option.some.injEq] at h
        subst h
        exact chk_call0 chk.all_r V (by rw [hF]; exact F2_signs)
      · split at h
        · rename_i hf
          have := Nat.eq_of_beq_eq_true hf
          subst this
          simp only [Option.some.injEq] at h
          subst h
          exact countR_call V (by rw [hF]; rfl)
        · exact widS_ok V hF f sp h

set_option maxRecDepth 100000 in
theorem widR_body : ∀ f, widR f ≠ none → ∃ fn c, cx.P.funcs[f]? = some fn ∧ fn.body = some c := by
  intro f h
  simp only [widR] at h
  split at h
  · rename_i hf
    have := Nat.eq_of_beq_eq_true hf
    subst this
    exact ⟨_, _, Tryz.func205, rfl⟩
  · split at h
    · rename_i hf
      have := Nat.eq_of_beq_eq_true hf
      subst this
      exact ⟨_, _, Tryz.func204, rfl⟩
    · split at h
      · rename_i hf
        have := Nat.eq_of_beq_eq_true hf
        subst this
        exact ⟨_, _, Tryz.func130, rfl⟩
      · split at h
        · rename_i hf
          have := Nat.eq_of_beq_eq_true hf
          subst this
          exact ⟨_, _, Tryz.func200, rfl⟩
        · exact widS_body f h
end Go.Proofs.YtdeelhbckfmaeaaGreatDoor
/- For the seat: what a halfword, or two, are read as by the reference: there is always an answer. -/
namespace Go.Proofs.YtdeelhbckfmaeaaGreatDoor
open Go.Sx Go.ChangeShapes Go.WideShapes Go.RowKit Go.Joins Go.Deep

namespace sho
noncomputable def atR (j : Nat) : Bool := pxBoth sg (ansTree cxs' widR 3000 83 pat (nth j)) kn
end sho
namespace tal
/-- The cases, two of them parted. -/
def casesR : List Cas :=
  cases.take 15 ++ (List.range 16).map (fun i => Cb.bits 0 0xFFFF (0xE8B0 + i)) ++ (cases.drop 16).take 345 ++ (List.range 16).map (fun i => Cb.bits 0 0xFFF0 (0xF300 + 16 * i)) ++ cases.drop 362
def nthR (j : Nat) : Cas := casesR.getD j ⟨[], [], []⟩
set_option maxRecDepth 100000 in
theorem covR : pxT sg (anyT (casesR.map Cas.cond)) kn (fun _ => true) = true := by kernel_rfl
set_option maxRecDepth 100000 in
theorem lenR : casesR.length = 449 := by kernel_rfl
noncomputable def atR (j : Nat) : Bool := pxBoth sg (ansTree cxs' widR 3000 84 pat3 (nthR j)) kn
end tal

set_option maxRecDepth 100000 in
theorem shoR_dec (H : ∀ j : Nat, j < sho.cases.length → sho.atR j = true) {n : Int} (hn : kHas .i64 n) (it : Bool) : ∃ p, DecP 83 [.int .i64 n, .bool it] p := by
  have so := sg_ok' (ρ := envOf F2 (scsH n it)) F2_signs
  have S := knH_ok hn it
  obtain ⟨c, hc, hcond⟩ := cas_cov so S sho.cov
  obtain ⟨j, hj, hjc⟩ := List.getElem_of_mem hc
  have hnth : sho.nth j = c := by simp only [sho.nth, List.getD, List.getElem?_eq_getElem hj, Option.getD_some, hjc]
  have hgo := H j hj
  rw [sho.atR, hnth] at hgo
  exact ans_ok cxsok' rfl rfl (widR_ok (scsH_ok hn it) rfl) widR_body (scsH_ok hn it) (by intro v hv; simp [sho.pat] at hv; rcases hv with rfl | rfl <;> rfl) rfl hcond so S hgo

set_option maxRecDepth 100000 in
theorem talR_dec (H : ∀ j : Nat, j < tal.casesR.length → tal.atR j = true) {a b : Int} (ha : kHas .i64 a) (hb : kHas .i64 b) (it : Bool) : ∃ p, DecP 84 [.int .i64 a, .int .i64 b, .bool it] p := by
  have so := sg_ok' (ρ := envOf F2 (scsT a b it)) F2_signs
  have S := knT_ok ha hb it
  obtain ⟨c, hc, hcond⟩ := cas_cov so S tal.covR
  obtain ⟨j, hj, hjc⟩ := List.getElem_of_mem hc
  have hnth : tal.nthR j = c := by simp only [tal.nthR, List.getD, List.getElem?_eq_getElem hj, Option.getD_some, hjc]
  have hgo := H j hj
  rw [tal.atR, hnth] at hgo
  exact ans_ok cxsok' rfl rfl (widR_ok (scsT_ok ha hb it) rfl) widR_body (scsT_ok ha hb it) (by intro v hv; simp [tal.pat3] at hv; rcases hv with rfl | rfl | rfl <;> rfl) rfl hcond so S hgo
end Go.Proofs.YtdeelhbckfmaeaaGreatDoor
