/- For the seat: texts joined: DcDef, AnsDef, Aft, Ints. -/
import Derived.Test.YtiicniiecomhjaaDoorJB
import Derived.Test.YtiicniiecomhjaaDoorJSxEqx
import Derived.Test.YtiicniiecomhjaaDoorJSxCasW
import Derived.Test.YtiicniiecomhjaaDoorJA
import Derived.WalkKit
import Derived.OwnWalk
import Derived.LoopTactic
import Derived.BigQuiet
import Derived.Deep.QuietTactic
import Derived.Laws.OwnMore
import Derived.Deep.AppendLies
import Derived.Lib.Hide
/- For the seat: functions that answer, whatever the world; encoders and decoders, there and back. -/
namespace Go.Proofs.YtiicniiecomhjaaDoor
open Go.Sx Go.ChangeShapes Go.WideShapes Go.RowKit Go.Joins Go.Deep

theorem laid_below {w w' : World} (h : Laid w) (hb : Below w.heap.size w w') : Laid w' := by
  obtain ⟨t, fz, hw⟩ := h
  exact ⟨t, fz, by rw [hb.block 0 (Array.getElem?_eq_some_iff.1 hw).1]; exact hw⟩

theorem inv_laid {K : Nat → Prop} {w0 : World} {ι : Nm} {w : World} (h : Inv K w0 ι w) : Laid w := by
  obtain ⟨h1, _, arr, t, fz, h3, h4⟩ := h.globs 0 kindsS (by simp [cx])
  refine ⟨t, fz, ?_⟩
  rw [h.kept 0 h1, h3]
  have : arr = cells12 := by
    apply Array.toList_inj.1
    rw [h4]; rfl
  rw [this]

/-- Some world in which the variable is laid. -/
noncomputable def lw : World := { (default : World) with heap := #[.cells cells12 0 (0, 0)] }
theorem lw_laid : Laid lw := ⟨0, (0, 0), rfl⟩

/-- A function of scalars answers, whatever the world; nothing that was there is changed. -/
def Ans (f : Nat) (args : List Value) (v : Value) : Prop := ∀ w, Laid w → Calls Tryd.prog f args.toArray w fun e w' => e = .returned v ∧ Below w.heap.size w w'

theorem Ans.go {f : Nat} {args : List Value} {v : Value} (h : Ans f args v) {w : World} (hw : Laid w) : Calls Tryd.prog f args.toArray w fun e w' => e = .returned v ∧ Below w.heap.size w w' := h w hw

theorem Ans.inv {f : Nat} {args : List Value} {v : Value} (h : Ans f args v) {K : Nat → Prop} {w0 : World} {ι : Nm} {w : World} (hI : Inv K w0 ι w) :
    Calls Tryd.prog f args.toArray w fun e w' => e = .returned v ∧ Inv K w0 ι w' :=
  (h w (inv_laid hI)).mono fun _ _ ⟨he, hb⟩ => ⟨he, hI.under hb⟩

theorem ans_of {ρ : Env} {f : Nat} {args : List SVal} {x : Res} {l : List Value} {v : Value} (hc : CallOk ρ cx.globs cx.P f args [] x) (hsc : ∀ u ∈ args, u.sc 0 = true) (ha : args.map (·.conc ρ ι0) = l) (hv : ∀ ι, x.v.conc ρ ι = v) : Ans f l v := by
  intro w hw
  have := hc (ownK w) w ι0 w (start ρ hw) hsc
  rw [ha] at this
  refine Calls.mono (R := _) (show Calls Tryd.prog f l.toArray w _ from this) ?_
  rintro e w' ⟨ι', _, _, H, _, _, rfl⟩
  exact ⟨by rw [hv ι'], H.grown⟩

theorem Ans.one {f : Nat} (hi : Tryd.prog.inits.idxOf? f = none) {l : List Value} {u v : Value} (h1 : Ans f l u) (h2 : Ans f l v) : u = v := calls_one hi (h1 lw lw_laid) (h2 lw lw_laid)

/-- A function of scalars that answers, as something that is known to the walks. -/
theorem Ans.ok {ρ : Env} {f : Nat} {args : List SVal} {v : SVal} (h : ∀ ι, Ans f (args.map (·.conc ρ ι)) (v.conc ρ ι)) (hsc : v.sc 0 = true) : CallOk ρ cx.globs cx.P f args [] ⟨v, [], .bit true⟩ := by
  intro K w0 ι w H _
  refine (((h ι).inv (inv_of (ι' := ι) H))).mono ?_
  rintro e w' ⟨rfl, hI⟩
  exact ⟨ι, Nm.Ext.refl _ _, Nat.le_refl _, inv_env hI _, SVal.sc_mono (Nat.zero_le _) _ hsc, rfl, rfl⟩

/-- An encoder's answer; where there is one, the decoder gives the instruction back. -/
structure EncP (E D n : Nat) (x : Fields) (it : Bool) (p : List Int × Bool) : Prop where
  len : p.1.length = n
  has : ∀ a ∈ p.1, kHas .i64 a
  enc : Ans E [x.val, .bool it] (.tuple (p.1.map (Value.int .i64) ++ [Value.bool p.2]).toArray)
  dec : p.2 = true → Ans D (p.1.map (Value.int .i64) ++ [Value.bool it]) (.tuple #[x.val, .bool true])

namespace apt
def ins : SVal := argT (.var 0) (.var 1) (.var 3) (.var 5)
def it : SVal := .bool (.var 9)
end apt

theorem insOf_conc {ρ : Env} {y v : SVal} {o : Tm} (h : insOf y = some (v, o)) (ι : Nm) : y.conc ρ ι = .tuple #[v.conc ρ ι, .bool (o.den ρ).asBool] := by
  unfold insOf at h
  split at h
  · simp only [Option.some.injEq, Prod.mk.injEq] at h
    obtain ⟨rfl, rfl⟩ := h
    rfl
  · cases h

theorem encP_of {E D n : Nat} {x : Fields} (hx : x.Ok) (it : Bool)
    (h : ∃ (y : Res) (l : List Tm) (t : Tm), CallOk (envOf F2 (x.scsW it)) cx.globs cx.P E [apt.ins, apt.it] [] y ∧ answerOf y.v = some (l, t) ∧ l.length = n ∧
      ((t.den (envOf F2 (x.scsW it))).asBool = true → ∃ (y : Res) (v : SVal) (o : Tm), CallOk (envOf F2 (x.scsW it)) cx.globs cx.P D (l.map (.int .i64) ++ [apt.it]) [] y ∧ insOf y.v = some (v, o) ∧ (o.den (envOf F2 (x.scsW it))).asBool = true ∧ ∀ ι ι', v.conc (envOf F2 (x.scsW it)) ι = apt.ins.conc (envOf F2 (x.scsW it)) ι')) :
    ∃ p, EncP E D n x it p := by
  obtain ⟨y, l, t, hc, ha, hl, hd⟩ := h
  obtain ⟨a1, a2⟩ := answerOf_ok (ρ := envOf F2 (x.scsW it)) ha
  refine ⟨(l.map fun a => (a.den (envOf F2 (x.scsW it))).asInt, (t.den (envOf F2 (x.scsW it))).asBool), by simpa using hl, ?_, ?_, ?_⟩
  · intro a h
    obtain ⟨b, hb, rfl⟩ := List.mem_map.1 h
    exact inK_ok (scsW_ok hx it) .i64 b (a2 b hb)
  · refine ans_of hc (by intro v hv; simp only [List.mem_cons, List.not_mem_nil, or_false] at hv; rcases hv with rfl | rfl <;> rfl) rfl ?_
    intro ι'
    rw [a1 ι', List.map_map]
    rfl
  · intro ht
    obtain ⟨y2, v, o, hc2, hi, ho, hv⟩ := hd ht
    refine ans_of hc2 (by
      intro v hv
      simp only [List.mem_append, List.mem_map, List.mem_cons, List.not_mem_nil, or_false] at hv
      rcases hv with ⟨u, _, rfl⟩ | rfl <;> rfl) ?_ ?_
    · rw [List.map_append, List.map_map, List.map_map]
      rfl
    · intro ι'
      rw [insOf_conc hi ι', ho, hv ι' ι']
      rfl

/-! ### The cases -/

/-- The number's twelve bits are there, and tell it. -/
def sgF : Sg := { defs := fun g => match Nat.beq g 901 with | true => some Chk.chk | false => none, ufs := [(910, [5], 10), (911, [5], 11), (920, [10], 5), (921, [10], 11)], pop := 900 }

theorem find_some {x : Int} (h : findB x = true) : valB (findI x) = true ∧ expI (findI x) = x := by
  unfold findB at h
  unfold findI
  cases hn : findN x with
  | none => rw [hn] at h; cases h
  | some n =>
    rw [findN_eq] at hn
    have := List.find?_some hn
    unfold hit at this
    rw [Bool.and_eq_true] at this
    exact ⟨this.1, eq_of_beq this.2⟩

theorem sgF_ok {x : Fields} (it : Bool) (hf : findB x.x5 = true) : sgF.Ok (envOf F2 (x.scsW it)) := by
  have s := sgL_ok (x := x) it
  obtain ⟨hv, he⟩ := find_some hf
  refine ⟨s.defs, ?_, s.pop⟩
  intro g xs y hm ss hss
  simp only [sgF, List.mem_cons, List.not_mem_nil, or_false, Prod.mk.injEq] at hm
  have one : ∀ i : Nat, ss.map Sc.asInt = [i].map (fun v => ((envOf F2 (x.scsW it)).v v).asInt) → ∃ s, ss = [s] ∧ s.asInt = ((envOf F2 (x.scsW it)).v i).asInt := by
    intro i h
    match ss, h with
    | [s], h => exact ⟨s, rfl, by simpa using h⟩
    | [], h => simp at h
    | _ :: _ :: _, h => simp at h
  rcases hm with ⟨rfl, rfl, rfl⟩ | ⟨rfl, rfl, rfl⟩ | ⟨rfl, rfl, rfl⟩ | ⟨rfl, rfl, rfl⟩
  · exact s.ufs 910 [5] 10 (by simp [wid.sgL]) ss hss
  · exact s.ufs 911 [5] 11 (by simp [wid.sgL]) ss hss
  · obtain ⟨s, rfl, hs⟩ := one 10 hss
    have hs : s.asInt = findI x.x5 := hs
    show Sc.int (expI s.asInt) = Sc.int x.x5
    rw [hs, he]
  · obtain ⟨s, rfl, hs⟩ := one 10 hss
    have hs : s.asInt = findI x.x5 := hs
    show Sc.bool (valB s.asInt) = Sc.bool (findB x.x5)
    rw [hs, hv, hf]

namespace apt
def nthN (k j : Nat) : Cas := (Cb.casesN k).getD j ⟨[], [], []⟩
def covN (k : Nat) : Bool := pxT wid.sgL (anyT ((Cb.casesN k).map Cas.cond)) (wid.ek k) (fun _ => true)
/-- Ldm and Stm by each register. -/
def casesV (k : Nat) : List (Bool × Cas) := match Nat.beq k 31 || Nat.beq k 32 with
  | true => (false, Cb.refused k) :: (Cb.prod [Cb.zs [1, 2, 4, 5, 6], (List.range 15).map (fun n => Cb.lit 3 (Int.ofNat n)), [Cb.msk 7 65535]]).map fun c => (false, c)
  | false => Cb.casesW k
def nthV (k j : Nat) : Bool × Cas := (casesV k).getD j (false, ⟨[], [], []⟩)
def sgOf : Bool → Sg
  | true => sgF
  | false => wid.sgL
def covV (k : Nat) : Bool := pxT wid.sgL (anyT ((casesV k).map fun c => c.2.cond)) (wid.ek k) (fun _ => true)
/-- What such a case knows. -/
def tells (c : Bool × Cas) : Bool := !c.1 || (c.2.pre.contains (Cb.fnd (Cb.V 5)) && (c.2.pre.contains (Cb.le (Cb.num 0) (Cb.V 5)) && c.2.pre.contains (Cb.le (Cb.V 5) (Cb.num 4294967295))))
def tellsV : Nat → Bool
  | 0 => true
  | n + 1 => (casesV (n + 1)).all tells && tellsV n
set_option maxRecDepth 100000 in
theorem tellsV45 : tellsV 45 = true := by kernel_rfl
theorem tellsV_get : ∀ n, tellsV n = true → ∀ k, 1 ≤ k → k ≤ n → (casesV k).all tells = true
  | 0, _, k, h, h' => by omega
  | n + 1, hc, k, h, h' => by
    simp only [tellsV, Bool.and_eq_true] at hc
    by_cases e : k = n + 1
    · subst e; exact hc.1
    · exact tellsV_get n hc.2 k h (by omega)
def cq : Cas := ⟨[wid.refused], [], [wid.refused]⟩
/-- The walk at a case, with what is known of callees. -/
noncomputable def nat (S : Specs) (E D k j : Nat) : Bool := pxBoth wid.sgL (backTree cxs' S 3000 E D 1 ins it (wid.withOp k (nthN k j))) (wid.ek k)
noncomputable def vat (S : Specs) (E D k j : Nat) : Bool := pxBoth (sgOf (nthV k j).1) (backTree cxs' S 3000 E D 2 ins it (wid.withOp k (nthV k j).2)) (wid.ek k)
noncomputable def atq (S : Specs) (E D n : Nat) (e : Kn) : Bool := pxBoth wid.sgL (backTree cxs' S 3000 E D n ins it cq) e
end apt

theorem cq_cond {ρ : Env} (h : (wid.refused.den ρ).asBool = true) : (apt.cq.cond.den ρ).asBool = true := by
  show ((wid.refused.den ρ).asBool && true) = true
  rw [h]; rfl

theorem exN {S : Specs} (hS : ∀ {ρ : Env}, VarsOk ρ → ρ.f = F2 → S.Ok ρ cx) (hB : ∀ f, S f ≠ none → ∃ fn c, cx.P.funcs[f]? = some fn ∧ fn.body = some c) {E D : Nat} {x : Fields} (hx : x.Ok) (it : Bool)
    (hlo : apt.atq S E D 1 wid.knLow = true) (hhi : apt.atq S E D 1 wid.knHigh = true) (hcov : ∀ k : Nat, 1 ≤ k → k ≤ 45 → apt.covN k = true)
    (hgo : ∀ k : Nat, 1 ≤ k → k ≤ 45 → ∀ j : Nat, j < (Cb.casesN k).length → apt.nat S E D k j = true) : ∃ p, EncP E D 1 x it p := by
  have Kn := knW_ok hx it
  have so := sgL_ok (x := x) it
  have hSo := hS (scsW_ok hx it) rfl
  have H := start (envOf F2 (x.scsW it)) lw_laid
  by_cases h1 : x.x0 < 1
  · have S := Kn.tell (.le 0 0) (decide_eq_true (show x.x0 ≤ 0 by omega))
    exact encP_of hx it (back_ok cxsok' hSo hB rfl rfl (cq_cond (pxT_ok so S wid.ref_low).1) so S hlo H)
  by_cases h2 : 45 < x.x0
  · have S := Kn.tell (.le 0 45) (decide_eq_false (show ¬ x.x0 ≤ 45 by omega))
    exact encP_of hx it (back_ok cxsok' hSo hB rfl rfl (cq_cond (pxT_ok so S wid.ref_high).1) so S hhi H)
  obtain ⟨k, hk⟩ := Int.eq_ofNat_of_zero_le (show 0 ≤ x.x0 by omega)
  have S := Kn.tell (.pt 0 (Int.ofNat k)) (b := true) (decide_eq_true (show x.x0 = Int.ofNat k by rw [hk]; rfl))
  obtain ⟨c, hc, hcond⟩ := cas_cov so S (hcov k (by omega) (by omega))
  obtain ⟨j, hj, hjc⟩ := List.getElem_of_mem hc
  have hnth : apt.nthN k j = c := by simp only [apt.nthN, List.getD, List.getElem?_eq_getElem hj, Option.getD_some, hjc]
  have hgo' := hgo k (by omega) (by omega) j hj
  rw [apt.nat, hnth] at hgo'
  exact encP_of hx it (back_ok (c := wid.withOp k c) cxsok' hSo hB rfl rfl hcond so S hgo' H)

theorem exV {S : Specs} (hS : ∀ {ρ : Env}, VarsOk ρ → ρ.f = F2 → S.Ok ρ cx) (hB : ∀ f, S f ≠ none → ∃ fn c, cx.P.funcs[f]? = some fn ∧ fn.body = some c) {E D : Nat} {x : Fields} (hx : x.Ok) (it : Bool)
    (hlo : apt.atq S E D 2 wid.knLow = true) (hhi : apt.atq S E D 2 wid.knHigh = true) (hcov : ∀ k : Nat, 1 ≤ k → k ≤ 45 → apt.covV k = true)
    (hgo : ∀ k : Nat, 1 ≤ k → k ≤ 45 → ∀ j : Nat, j < (apt.casesV k).length → apt.vat S E D k j = true) : ∃ p, EncP E D 2 x it p := by
  have Kn := knW_ok hx it
  have so := sgL_ok (x := x) it
  have hSo := hS (scsW_ok hx it) rfl
  have H := start (envOf F2 (x.scsW it)) lw_laid
  by_cases h1 : x.x0 < 1
  · have S := Kn.tell (.le 0 0) (decide_eq_true (show x.x0 ≤ 0 by omega))
    exact encP_of hx it (back_ok cxsok' hSo hB rfl rfl (cq_cond (pxT_ok so S wid.ref_low).1) so S hlo H)
  by_cases h2 : 45 < x.x0
  · have S := Kn.tell (.le 0 45) (decide_eq_false (show ¬ x.x0 ≤ 45 by omega))
    exact encP_of hx it (back_ok cxsok' hSo hB rfl rfl (cq_cond (pxT_ok so S wid.ref_high).1) so S hhi H)
  obtain ⟨k, hk⟩ := Int.eq_ofNat_of_zero_le (show 0 ≤ x.x0 by omega)
  have S := Kn.tell (.pt 0 (Int.ofNat k)) (b := true) (decide_eq_true (show x.x0 = Int.ofNat k by rw [hk]; rfl))
  obtain ⟨t, ht, hcond⟩ := anyT_den _ _ (pxT_ok so S (hcov k (by omega) (by omega))).1
  obtain ⟨c, hc, rfl⟩ := List.mem_map.1 ht
  obtain ⟨j, hj, hjc⟩ := List.getElem_of_mem hc
  have hnth : apt.nthV k j = c := by simp only [apt.nthV, List.getD, List.getElem?_eq_getElem hj, Option.getD_some, hjc]
  have hgo' := hgo k (by omega) (by omega) j hj
  rw [apt.vat, hnth] at hgo'
  cases hb : c.1 with
  | false =>
    rw [hb] at hgo'
    exact encP_of hx it (back_ok (c := wid.withOp k c.2) cxsok' hSo hB rfl rfl hcond so S hgo' H)
  | true =>
    rw [hb] at hgo'
    have tl := List.all_eq_true.1 (apt.tellsV_get 45 apt.tellsV45 k (by omega) (by omega)) c hc
    simp only [apt.tells, hb, Bool.not_true, Bool.false_or, Bool.and_eq_true, List.contains_iff_mem] at tl
    have hall := allT_den _ _ hcond
    have q1 : (decide ((0 : Int) ≤ x.x5)) = true := hall _ tl.2.1
    have q2 : (decide (x.x5 ≤ (4294967295 : Int))) = true := hall _ tl.2.2
    have q3 : findB (IntKind.u32.wrap x.x5) = true := hall _ tl.1
    have r1 := of_decide_eq_true q1
    have r2 := of_decide_eq_true q2
    have hw : IntKind.u32.wrap x.x5 = x.x5 := wrap_eq (k := .u32) ⟨r1, by show x.x5 < 2 ^ 32; omega⟩ (fun _ _ => rfl)
    rw [hw] at q3
    exact encP_of hx it (back_ok (c := wid.withOp k c.2) cxsok' hSo hB rfl rfl hcond (sgF_ok it q3) S hgo' H)

/-- Two instructions of the same value are the same. -/
theorem val_inj {x y : Fields} (h : x.val = y.val) : x = y := by
  cases x; cases y
  simp only [Fields.val, Value.agg.injEq] at h
  simp at h
  obtain ⟨rfl, rfl, rfl, rfl, rfl, rfl, rfl, rfl, rfl⟩ := h
  rfl

end Go.Proofs.YtiicniiecomhjaaDoor
/- For the seat: what a halfword, or two, are read as: there is always an answer. -/
namespace Go.Proofs.YtiicniiecomhjaaDoor
open Go.Sx Go.ChangeShapes Go.WideShapes Go.RowKit Go.Joins Go.Deep

/-- An instruction's fields, as terms. -/
def fldsOf : SVal → Option (List Tm × Tm)
  | .cons (.int .i64 a0) (.cons (.int .i64 a1) (.cons (.int .i64 a2) (.cons (.int .i64 a3) (.cons (.int .i64 a4) (.cons (.int .i64 a5) (.cons (.int .i64 a6) (.cons (.int .i64 a7) (.cons (.bool b) .nil)))))))) =>
    match a0.inK .i64 && (a1.inK .i64 && (a2.inK .i64 && (a3.inK .i64 && (a4.inK .i64 && (a5.inK .i64 && (a6.inK .i64 && a7.inK .i64)))))) with
    | true => some ([a0, a1, a2, a3, a4, a5, a6, a7], b)
    | false => none
  | _ => none

theorem fldsOf_ok {ρ : Env} (V : VarsOk ρ) {v : SVal} {p : List Tm × Tm} (h : fldsOf v = some p) : ∃ x : Fields, x.Ok ∧ ∀ ι, (SVal.agg v).conc ρ ι = x.val := by
  unfold fldsOf at h
  split at h
  · rename_i a0 a1 a2 a3 a4 a5 a6 a7 b
    split at h
    · rename_i hk
      simp only [Bool.and_eq_true] at hk
      obtain ⟨k0, k1, k2, k3, k4, k5, k6, k7⟩ := hk
      exact ⟨⟨(a0.den ρ).asInt, (a1.den ρ).asInt, (a2.den ρ).asInt, (a3.den ρ).asInt, (a4.den ρ).asInt, (a5.den ρ).asInt, (a6.den ρ).asInt, (a7.den ρ).asInt, (b.den ρ).asBool⟩,
        ⟨inK_ok V .i64 a0 k0, inK_ok V .i64 a1 k1, inK_ok V .i64 a2 k2, inK_ok V .i64 a3 k3, inK_ok V .i64 a4 k4, inK_ok V .i64 a5 k5, inK_ok V .i64 a6 k6, inK_ok V .i64 a7 k7⟩, fun _ => rfl⟩
    · cases h
  · cases h

/-- Whether the answer is an instruction and a truth. -/
def ansD (x : Res) : Tree Res :=
  match insOf x.v with
  | some (.agg l, _) => match fldsOf l with
    | some _ => .leaf trueRes
    | none => .fail "no fields"
  | _ => .fail "no instruction"

/-- What a decoder answers. -/
structure DecP (D : Nat) (args : List Value) (p : Fields × Bool) : Prop where
  ok : p.1.Ok
  ans : Ans D args (.tuple #[p.1.val, .bool p.2])

noncomputable def ansTree (cx : Cx) (S : Specs) (fuel : Nat) (D : FuncId) (pat : List SVal) (c : Cas) : Tree Res :=
  .ite c.cond (.assert (allT (condS c.sub ++ c.pc)) ((callT cx S (run cx S fuel) D (pat.map (subV c.sub)) [] (c.pc.foldr mkAnd (.bit true))).bind ansD)) (.leaf trueRes)

theorem ans_ok {ρ : Env} {cx' : Cx} (ok : cx'.Ok) (hP : cx'.P = cx.P) (hG : cx'.globs = cx.globs) {S : Specs} (hS : S.Ok ρ cx') (hB : ∀ f, S f ≠ none → ∃ fn c, cx'.P.funcs[f]? = some fn ∧ fn.body = some c) (V : VarsOk ρ) {fuel : Nat} {D : FuncId} {pat : List SVal} {l : List Value} {c : Cas}
    (hsc : ∀ v ∈ pat, v.sc 0 = true) (hl : pat.map (·.conc ρ ι0) = l) (hc : (c.cond.den ρ).asBool = true) {sg : Sg} (so : sg.Ok ρ) {e : Kn} (hs : Sats ρ e) (hx : pxBoth sg (ansTree cx' S fuel D pat c) e = true) :
    ∃ p, DecP D l p := by
  obtain ⟨z, b, h1, h2, h3⟩ := pxBoth_ok so _ _ hs hx
  simp only [ansTree, Tree.get, hc] at h1
  cases ha : ((allT (condS c.sub ++ c.pc)).den ρ).asBool with
  | false => rw [ha] at h1; cases h1
  | true =>
  rw [ha] at h1
  have hall := allT_den ρ _ ha
  have hsub : ∀ t ∈ condS c.sub, (t.den ρ).asBool = true := fun t ht => hall t (by simp [ht])
  simp only [Tree.get_bind, Option.bind_eq_some_iff] at h1
  obtain ⟨x, hx1, hx2⟩ := h1
  have hcall := call_ok ok hS hB (conj_den ρ _ (fun t ht => hall t (by simp [ht]))) hx1
  have hcall' : CallOk ρ cx.globs cx.P D pat [] x := by
    rw [← hP, ← hG]
    refine hcall.args ?_ ?_
    · intro v hv
      obtain ⟨u, hu, rfl⟩ := List.mem_map.1 hv
      exact subV_sc u (hsc u hu)
    · intro ι
      rw [List.map_map]
      exact List.map_congr_left fun v _ => (subV_conc hsub ι v).1
  unfold ansD at hx2
  split at hx2
  · rename_i l' o hi
    split at hx2
    · rename_i q hq
      obtain ⟨y, hy, hv⟩ := fldsOf_ok V hq
      exact ⟨(y, (o.den ρ).asBool), hy, ans_of hcall' hsc hl (fun ι => by rw [insOf_conc hi ι, hv ι])⟩
    · cases hx2
  · cases hx2

namespace sho
def kn : Kn := ⟨[], [], [], [], [0]⟩
def bitsL : List (Nat × Nat) := [(65024, 0), (65024, 512), (65024, 1024), (65024, 1536), (65024, 2048), (65024, 2560), (65024, 3072), (65024, 3584), (65024, 4096), (65024, 4608), (65024, 5120), (65024, 5632), (65024, 6144), (65024, 6656), (65024, 7168), (65024, 7680), (65024, 8192), (65024, 8704), (65024, 9216), (65024, 9728), (65024, 10240), (65024, 10752), (65024, 11264), (65024, 11776), (65024, 12288), (65024, 12800), (65024, 13312), (65024, 13824), (65024, 14336), (65024, 14848), (65024, 15360), (65024, 15872), (65472, 16384), (65472, 16448), (65472, 16512), (65472, 16576), (65472, 16640), (65472, 16704), (65472, 16768), (65472, 16832), (65472, 16896), (65472, 16960), (65472, 17024), (65472, 17088), (65472, 17152), (65472, 17216), (65472, 17280), (65472, 17344), (65280, 17408), (65280, 17664), (65280, 17920), (65280, 18176), (63488, 18432), (65024, 20480), (65024, 20992), (65024, 21504), (65024, 22016), (65024, 22528), (65024, 23040), (65024, 23552), (65024, 24064), (63488, 24576), (63488, 26624), (63488, 28672), (63488, 30720), (63488, 32768), (63488, 34816), (63488, 36864), (63488, 38912), (63488, 40960), (63488, 43008), (65280, 45056), (65280, 45312), (65280, 45568), (65280, 45824), (65280, 46080), (65280, 46336), (65280, 46592), (65280, 46848), (65280, 47104), (65280, 47360), (65280, 47616), (65280, 47872), (65280, 48128), (65280, 48384), (65280, 48640), (65280, 48896), (63488, 49152), (63488, 51200), (61440, 53248), (63488, 57344), (63488, 59392), (63488, 61440), (63488, 63488)]
def cases : List Cas := bitsL.map fun c => Cb.bits 0 c.1 c.2
def pat : List SVal := [.int .i64 (.var 0), .bool (.var 1)]
def nth (j : Nat) : Cas := cases.getD j ⟨[], [], []⟩
set_option maxRecDepth 100000 in
theorem cov : pxT sg (anyT (cases.map Cas.cond)) kn (fun _ => true) = true := by kernel_rfl
set_option maxRecDepth 100000 in
theorem len : cases.length = 94 := by kernel_rfl
end sho

def scsH (n : Int) (it : Bool) : List Sc := [.int n, .bool it]

theorem scsH_ok {n : Int} (h : kHas .i64 n) (it : Bool) : VarsOk (envOf F2 (scsH n it)) := by
  refine ⟨?_, F2_has⟩
  intro i
  match i with
  | 0 => exact h
  | 1 => exact zero_has
  | k + 2 => exact zero_has

theorem knH_ok {n : Int} (h : kHas .i64 n) (it : Bool) : Sats (envOf F2 (scsH n it)) sho.kn := by
  refine Sats.start (scsH_ok h it) _ ?_
  intro i hi
  simp only [List.mem_cons, List.not_mem_nil, or_false] at hi
  subst hi
  exact ⟨_, rfl⟩


namespace tal
def kn : Kn := ⟨[], [], [], [], [0, 1]⟩
def pat3 : List SVal := [.int .i64 (.var 0), .int .i64 (.var 1), .bool (.var 2)]
def cases : List Cas :=
  [Cb.bits 0 0x8000 0, Cb.bits 0 0xC000 0x8000, Cb.bits 0 0xE000 0xC000, Cb.bits 0 0xF800 0xE000] ++
  (List.range 32).map (fun i => Cb.bits 0 0xFFF0 (0xE800 + 16 * i)) ++
  Cas.mul ((List.range 32).map fun i => Cb.bits 0 0xFFF0 (0xEA00 + 16 * i)) [Cb.bits 1 0x8000 0x8000, Cb.bits 1 0xC000 0x4000, Cb.bits 1 0xE000 0x2000, Cb.bits 1 0xF000 0x1000, Cb.bits 1 0xF080 0x80, Cb.bits 1 0xF0C0 0x40, Cb.bits 1 0xF0E0 0x20, Cb.bits 1 0xF0F0 0x10, Cb.bits 1 0xF0F0 0] ++
  (List.range 4).map (fun i => Cb.bits 0 0xFF00 (0xEC00 + 256 * i)) ++
  (List.range 32).map (fun i => Cb.bits 0 0xFFF0 (0xF000 + 16 * i)) ++
  (List.range 2).map (fun i => Cb.bits 0 0xFF00 (0xF200 + 256 * i)) ++
  (List.range 32).map (fun i => Cb.bits 0 0xFFF0 (0xF400 + 16 * i)) ++
  (List.range 2).map (fun i => Cb.bits 0 0xFF00 (0xF600 + 256 * i)) ++
  (List.range 16).map (fun i => Cb.bits 0 0xFFF0 (0xF800 + 16 * i)) ++
  (List.range 7).map (fun i => Cb.bits 0 0xFF00 (0xF900 + 256 * i))
def nth (j : Nat) : Cas := cases.getD j ⟨[], [], []⟩
set_option maxRecDepth 100000 in
theorem cov : pxT sg (anyT (cases.map Cas.cond)) kn (fun _ => true) = true := by kernel_rfl
set_option maxRecDepth 100000 in
theorem len : cases.length = 419 := by kernel_rfl
end tal

def scsT (a b : Int) (it : Bool) : List Sc := [.int a, .int b, .bool it]

theorem scsT_ok {a b : Int} (ha : kHas .i64 a) (hb : kHas .i64 b) (it : Bool) : VarsOk (envOf F2 (scsT a b it)) := by
  refine ⟨?_, F2_has⟩
  intro i
  match i with
  | 0 => exact ha
  | 1 => exact hb
  | 2 => exact zero_has
  | k + 3 => exact zero_has

theorem knT_ok {a b : Int} (ha : kHas .i64 a) (hb : kHas .i64 b) (it : Bool) : Sats (envOf F2 (scsT a b it)) tal.kn := by
  refine Sats.start (scsT_ok ha hb it) _ ?_
  intro i hi
  simp only [List.mem_cons, List.not_mem_nil, or_false] at hi
  rcases hi with rfl | rfl
  · exact ⟨_, rfl⟩
  · exact ⟨_, rfl⟩


namespace sho
noncomputable def at' (j : Nat) : Bool := pxBoth sg (ansTree cxs' widS 3000 22 pat (nth j)) kn
end sho
namespace tal
noncomputable def at' (j : Nat) : Bool := pxBoth sg (ansTree cxs' widS 3000 23 pat3 (nth j)) kn
end tal

theorem sho_dec (H : ∀ j : Nat, j < sho.cases.length → sho.at' j = true) {n : Int} (hn : kHas .i64 n) (it : Bool) : ∃ p, DecP 22 [.int .i64 n, .bool it] p := by
  have so := sg_ok' (ρ := envOf F2 (scsH n it)) F2_signs
  have S := knH_ok hn it
  obtain ⟨c, hc, hcond⟩ := cas_cov so S sho.cov
  obtain ⟨j, hj, hjc⟩ := List.getElem_of_mem hc
  have hnth : sho.nth j = c := by simp only [sho.nth, List.getD, List.getElem?_eq_getElem hj, Option.getD_some, hjc]
  have hgo := H j hj
  rw [sho.at', hnth] at hgo
  exact ans_ok cxsok' rfl rfl (widS_ok (scsH_ok hn it) rfl) widS_body (scsH_ok hn it) (by intro v hv; simp [sho.pat] at hv; rcases hv with rfl | rfl <;> rfl) rfl hcond so S hgo

theorem tal_dec (H : ∀ j : Nat, j < tal.cases.length → tal.at' j = true) {a b : Int} (ha : kHas .i64 a) (hb : kHas .i64 b) (it : Bool) : ∃ p, DecP 23 [.int .i64 a, .int .i64 b, .bool it] p := by
  have so := sg_ok' (ρ := envOf F2 (scsT a b it)) F2_signs
  have S := knT_ok ha hb it
  obtain ⟨c, hc, hcond⟩ := cas_cov so S tal.cov
  obtain ⟨j, hj, hjc⟩ := List.getElem_of_mem hc
  have hnth : tal.nth j = c := by simp only [tal.nth, List.getD, List.getElem?_eq_getElem hj, Option.getD_some, hjc]
  have hgo := H j hj
  rw [tal.at', hnth] at hgo
  exact ans_ok cxsok' rfl rfl (widS_ok (scsT_ok ha hb it) rfl) widS_body (scsT_ok ha hb it) (by intro v hv; simp [tal.pat3] at hv; rcases hv with rfl | rfl | rfl <;> rfl) rfl hcond so S hgo

end Go.Proofs.YtiicniiecomhjaaDoor
/- For the seat: the IT state behind an instruction, of both packages. -/
namespace Go.Proofs.YtiicniiecomhjaaDoor
open Go.Sx Go.ChangeShapes Go.WideShapes Go.RowKit Go.Joins Go.Deep

namespace aft
def v (i : Nat) : Tm := .var i
def and (a : Tm) (n : Int) : Tm := .op2 (.and .i64) a (.num n)
def rem (a : Tm) (n : Int) : Tm := .op2 .rem a (.num n)
def nextOf (a : Tm) : Tm := .ite (.op2 .eq (and a 7) (.num 0)) (.num 0) (.op2 (.or .i64) (and a 224) (and (.op2 (.shl .i64) a (.num 1)) 31))
def nextRof (a : Tm) : Tm := .ite (.op2 .eq (rem a 8) (.num 0)) (.num 0) (.op2 (.add .i64) (.op2 (.mul .i64) (.op2 (.quo .i64) a (.num 32)) (.num 32)) (rem (.op2 (.mul .i64) (rem a 32) (.num 2)) 32))
def behind (n : Tm) : Tm := .ite (.op2 .eq (v 1) (.num 42)) (.op2 (.or .i64) (.op2 (.shl .i64) (v 2) (.num 4)) (v 6)) n
def low8 : Tm := and (v 0) 255
def aftT : Tm := behind (nextOf (v 0))
def aftR : Tm := behind (nextRof low8)
def ins : SVal := .agg (.ofList [.int .i64 (v 1), .int .i64 (v 2), .int .i64 (v 3), .int .i64 (v 4), .int .i64 (v 5), .int .i64 (v 6), .int .i64 (v 7), .int .i64 (v 8), .bool (v 9)])
def pat : List SVal := [.int .i64 (v 0), ins]
def kn : Kn := ⟨[], [], [], [], [0]⟩
set_option maxRecDepth 100000 in
theorem run_p : pxIs sg (.int .i64 aftT) (callT cx noS (run cx noS 400) 14 pat [] (.bit true)) kn = true := by kernel_rfl
set_option maxRecDepth 100000 in
theorem low_a : pxT sg (.op2 .eq (nextOf (v 0)) (nextOf low8)) kn (fun _ => true) = true := by kernel_rfl
set_option maxRecDepth 100000 in
theorem low_b : pxT sg (.op2 .le (.num 0) low8) kn (fun _ => true) = true := by kernel_rfl
set_option maxRecDepth 100000 in
theorem low_c : pxT sg (.op2 .le low8 (.num 255)) kn (fun _ => true) = true := by kernel_rfl
def ρ0 : Env := ⟨fun _ => .int 0, fun _ _ => .int 0, fun _ => undef⟩
def same (n : Nat) : Bool := ((nextOf (.num n)).den ρ0).asInt == ((nextRof (.num n)).den ρ0).asInt
def allR (p : Nat → Bool) : Nat → Bool
  | 0 => true
  | n + 1 => p n && allR p n
theorem allR_get {p : Nat → Bool} : ∀ n, allR p n = true → ∀ r, r < n → p r = true
  | 0, _, r, h => by omega
  | n + 1, hp, r, h => by
    simp only [allR, Bool.and_eq_true] at hp
    by_cases e : r = n
    · subst e; exact hp.1
    · exact allR_get n hp.2 r (by omega)
set_option maxRecDepth 100000 in
theorem same256 : allR same 256 = true := by kernel_rfl
theorem nextOf_den {ρ : Env} {a : Tm} {n : Int} (h : a.den ρ = .int n) : (nextOf a).den ρ = (nextOf (.num n)).den ρ0 := by
  simp only [nextOf, and, Tm.den, h]
theorem nextRof_den {ρ : Env} {a : Tm} {n : Int} (h : a.den ρ = .int n) : (nextRof a).den ρ = (nextRof (.num n)).den ρ0 := by
  simp only [nextRof, rem, Tm.den, h]
theorem next_same {ρ : Env} (so : sg.Ok ρ) (hs : Sats ρ kn) : ((nextOf (v 0)).den ρ).asInt = ((nextRof low8).den ρ).asInt := by
  have a : (((nextOf (v 0)).den ρ).asInt == ((nextOf low8).den ρ).asInt) = true := (pxT_ok so hs low_a).1
  have b : decide ((0 : Int) ≤ (low8.den ρ).asInt) = true := (pxT_ok so hs low_b).1
  have c : decide ((low8.den ρ).asInt ≤ (255 : Int)) = true := (pxT_ok so hs low_c).1
  rw [eq_of_beq a]
  obtain ⟨n, hn⟩ := Int.eq_ofNat_of_zero_le (of_decide_eq_true b)
  have c := of_decide_eq_true c
  have hd : low8.den ρ = .int n := by rw [← hn]; rfl
  rw [nextOf_den hd, nextRof_den hd]
  exact eq_of_beq (allR_get 256 same256 n (by omega))
theorem aft_same {ρ : Env} (so : sg.Ok ρ) (hs : Sats ρ kn) : (aftR.den ρ).asInt = (aftT.den ρ).asInt := by
  unfold aftR aftT behind
  simp only [Tm.den]
  split
  · rfl
  · exact (next_same so hs).symm
end aft

def scsA (it : Int) (x : Fields) : List Sc := [.int it, .int x.x0, .int x.x1, .int x.x2, .int x.x3, .int x.x4, .int x.x5, .int x.x6, .int x.x7, .bool x.b]
/-- The IT state behind an instruction. -/
noncomputable def aftI (it : Int) (x : Fields) : Int := (aft.aftT.den (envOf F2 (scsA it x))).asInt

theorem scsA_ok {it : Int} {x : Fields} (hi : kHas .i64 it) (h : x.Ok) : VarsOk (envOf F2 (scsA it x)) := by
  refine ⟨?_, F2_has⟩
  intro i
  match i with
  | 0 => exact hi
  | 1 => exact h.h0
  | 2 => exact h.h1
  | 3 => exact h.h2
  | 4 => exact h.h3
  | 5 => exact h.h4
  | 6 => exact h.h5
  | 7 => exact h.h6
  | 8 => exact h.h7
  | 9 => exact zero_has
  | n + 10 => exact zero_has

theorem aft_has {it : Int} {x : Fields} (hi : kHas .i64 it) (h : x.Ok) : kHas .i64 (aftI it x) := inK_ok (scsA_ok hi h) .i64 aft.aftT (by decide +kernel)

theorem aft_kn {it : Int} {x : Fields} (hi : kHas .i64 it) (h : x.Ok) : Sats (envOf F2 (scsA it x)) aft.kn := by
  refine Sats.start (scsA_ok hi h) _ ?_
  intro i hi
  simp only [List.mem_cons, List.not_mem_nil, or_false] at hi
  subst hi
  exact ⟨_, rfl⟩

theorem aft_p {it : Int} {x : Fields} (hi : kHas .i64 it) (h : x.Ok) : Ans 14 [.int .i64 it, x.val] (.int .i64 (aftI it x)) := by
  obtain ⟨y, h1, h2⟩ := pxIs_ok (sg_ok' (ρ := envOf F2 (scsA it x)) F2_signs) _ _ (aft_kn hi h) aft.run_p
  refine ans_of (call_ok (ρ := envOf F2 (scsA it x)) cxok (noS_ok _ _) (noS_body _) rfl h1) (by intro v hv; simp [aft.pat] at hv; rcases hv with rfl | rfl <;> rfl) rfl ?_
  intro ι
  rw [h2]
  rfl


end Go.Proofs.YtiicniiecomhjaaDoor
/- For the seat: slices of numbers: how they read, and how they are made. -/
namespace Go.Proofs.YtiicniiecomhjaaDoor
open Go.RowKit Go.Sx Go.Deep

theorem intInfo : (Tryd.prog.info? 3).map (fun i => (i.zero, i.size, i.bytes)) = some (some (.int .i64 0), 1, 8) := by kernel_rfl

def encI (l : List Int) : List Value := l.map (Value.int .i64)
theorem encI_len (l : List Int) : (encI l).length = l.length := by simp [encI]
theorem encI_snoc (l : List Int) (a : Int) : encI (l ++ [a]) = encI l ++ [.int .i64 a] := by simp [encI]

/-- A slice's address, below block B, where such numbers lie. -/
def IAt (w : World) (B : Nat) (A : Option Addr) (l : List Int) : Prop :=
  l ≠ [] → ∃ g off, A = some ⟨g, off, none⟩ ∧ g < B ∧ ∀ (i : Nat) (a : Int), l[i]? = some a → w.cell? ⟨g, off + i, none⟩ = some (.int .i64 a)

theorem IAt.nil (w : World) (B : Nat) (A : Option Addr) : IAt w B A [] := fun h => absurd rfl h
theorem IAt.keep {w w' : World} {B : Nat} {A : Option Addr} {l : List Int} (h : IAt w B A l) (hk : ∀ p : Addr, p.block < B → ∀ v, w.cell? p = some v → w'.cell? p = some v) : IAt w' B A l := by
  intro hn
  obtain ⟨g, off, e, hb, hc⟩ := h hn
  exact ⟨g, off, e, hb, fun i p hp => hk _ hb _ (hc i p hp)⟩
theorem IAt.below {w w' : World} {B B' : Nat} {A : Option Addr} {l : List Int} (h : IAt w B A l) (hb : Below B' w w') (hB : B ≤ B') : IAt w' B A l := h.keep fun _ hp _ e => (hb.cell (by omega)).trans e
theorem IAt.more {w : World} {B B' : Nat} {A : Option Addr} {l : List Int} (h : IAt w B A l) (hB : B ≤ B') : IAt w B' A l := by
  intro hn
  obtain ⟨g, off, e, hb, hc⟩ := h hn
  exact ⟨g, off, e, by omega, hc⟩
theorem IAt.at_ {w : World} {B : Nat} {A : Option Addr} {l : List Int} (h : IAt w B A l) {k : Nat} (hk : k < l.length) :
    ∃ g off, A = some ⟨g, off, none⟩ ∧ g < B ∧ w.cell? ⟨g, off + k, none⟩ = some (.int .i64 l[k]) := by
  obtain ⟨g, off, e, hb, hc⟩ := h (by intro e; subst e; simp at hk)
  exact ⟨g, off, e, hb, hc k l[k] (List.getElem?_eq_getElem hk)⟩
/-- What is behind a place. -/
theorem IAt.drop {w : World} {B : Nat} {g off : Nat} {l : List Int} (h : IAt w B (some ⟨g, off, none⟩) l) (k : Nat) : IAt w B (some ⟨g, off + k, none⟩) (l.drop k) := by
  intro hn
  have hl : l ≠ [] := by rintro rfl; simp at hn
  obtain ⟨g', off', e, hb, hc⟩ := h hl
  simp only [Option.some.injEq, Addr.mk.injEq, and_true] at e
  obtain ⟨rfl, rfl⟩ := e
  refine ⟨g, off + k, rfl, hb, fun i a ha => ?_⟩
  rw [List.getElem?_drop] at ha
  have := hc (k + i) a ha
  rwa [← Nat.add_assoc] at this

theorem IAt.of_own {w : World} {base : Nat} {A : Option Addr} {cap : Nat} {l : List Int} {e : TypeId} (h : w.ownsRow base e 1 (.slice A l.length cap) l.length (encI l)) : IAt w w.heap.size A l := by
  intro hn
  rcases h.2 with ⟨hv, h0⟩ | ⟨g, cap', cur, hv, hb, hh, _, _, hs, ht⟩
  · exact absurd (List.eq_nil_of_length_eq_zero h0) hn
  · have hA : A = some ⟨g, 0, none⟩ := by injection hv
    subst hA
    refine ⟨g, 0, rfl, (Array.getElem?_eq_some_iff.1 hh).1, fun i a hp => ?_⟩
    have k1 := h.cells (g := g) rfl i (.int .i64 a) (by simp [encI, hp])
    have z : ∀ n, (⟨g, 0, none⟩ : Addr).add n = ⟨g, 0 + n, none⟩ := fun n => by unfold Addr.add; split <;> simp_all
    rw [z] at k1
    exact k1

/-- What the call owns it owns still, where all that was there is left alone. -/
theorem own_below {w w' : World} {base : Nat} {e : TypeId} {size : Nat} {v : Value} {n : Nat} {xs : List Value} (h : w.ownsRow base e size v n xs) (hb : Below w.heap.size w w') : w'.ownsRow base e size v n xs := by
  obtain ⟨h1, h2⟩ := h
  refine ⟨h1, ?_⟩
  rcases h2 with h2 | ⟨g, cap, cur, hv, hg, hh, r⟩
  · exact Or.inl h2
  · exact Or.inr ⟨g, cap, cur, hv, hg, by rw [hb.block g (Array.getElem?_eq_some_iff.1 hh).1]; exact hh, r⟩

theorem one_new (w : World) (t : TypeId) (x : Value) : ∀ (j : Nat) (u : Value), [x][j]? = some u → (w.alloc (.cells #[x] t)).cell? ((⟨w.heap.size, 0, none⟩ : Addr).add j) = some u :=
  World.news_of_block (cs := #[x]) (t := t) (fr := (0, 0)) (heap_alloc_new w _)

/-- A number is appended to numbers of the call's own. -/
theorem app_int (w0 : World) {ops : Array Oper} {rest : List Oper} {o : Oper} {a : Act} {Q : Exit → Act → World → Prop} (hgd : o.guard = none) (s x : Operand)
    (ho : o.op = .call { callee := .builtin .append, args := #[s, x], argTypes := #[30, 30] }) (base : Nat) (hbase : base ≤ w0.heap.size) (l : List Int) (b : Int) (hlen : l.length ≤ 5000000000)
    (v : Value) (hs : a.eval s = v) (hown : w0.ownsRow base 3 1 v l.length (encI l)) (g : Nat) (hx : a.eval x = .slice (some ⟨g, 0, none⟩) 1 1) (hg : g = w0.heap.size)
    (h : ∀ v' w', w'.ownsRow base 3 1 v' (l ++ [b]).length (encI (l ++ [b])) → Below base w0 w' → wpList Tryd.prog ops Q rest (a.put o.dst v') w') :
    wpList Tryd.prog ops Q (o :: rest) a (w0.alloc (.cells #[.int .i64 b] 3)) := by
  subst hg
  obtain ⟨i0, hi0, hz0, hz1, hz2⟩ := info_parts intInfo
  refine wpList_append_own _ hgd s x 30 ho base 3 i0 _ 1 8 Tryd.underlying30 hi0 hz0 hz1 hz2 rfl (by decide) v l.length (encI l) hs (hown.alloc _) ⟨w0.heap.size, 0, none⟩ 1 1 [.int .i64 b] hx rfl (one_new _ _ _)
    (fun u hu => by simp at hu; subst hu; rfl) (by unfold maxLen; omega) (by omega) (by simp; omega) ?_
  intro v' w' hown' hgrow _
  refine h v' w' (by rw [encI_snoc]; simpa using hown') ?_
  exact ((Below.refl base w0).alloc hbase _).grown hgrow (by simp; omega) (fun j hj => (hown.lt _ hj).1)

end Go.Proofs.YtiicniiecomhjaaDoor
