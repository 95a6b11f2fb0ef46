/- For the seat: laws of an instruction and its two halfwords. -/
import Derived.Test.YtaiecnepchndkaaDoorFindDef
import Derived.Test.YtaiecnepchndkaaDoorSxCasW
namespace Go.Proofs.YtaiecnepchndkaaDoor
open Go.Sx Go.ChangeShapes Go.WideShapes Go.RowKit Go.Joins Go.Deep

/-- The signs: those of before; 910, 911: the twelve bits of a number, whether there are some. -/
noncomputable def F2 (g : Nat) (ss : List Sc) : Sc :=
  match Nat.beq g 910 with
  | true => .int (findI (ss.getD 0 (.int 0)).asInt)
  | false => match Nat.beq g 911 with
    | true => .bool (findB (ss.getD 0 (.int 0)).asInt)
    | false => F1 g ss

theorem findI_range (x : Int) : 0 ≤ findI x ∧ findI x ≤ 4095 := by
  unfold findI
  split
  · rename_i n hn
    rw [findN_eq] at hn
    have := List.mem_range.1 (List.mem_of_find?_eq_some hn)
    omega
  · omega

theorem F2_has (g : Nat) (ss : List Sc) : kHas .i64 (F2 g ss).asInt := by
  unfold F2
  split
  · have := findI_range (ss.getD 0 (.int 0)).asInt
    show -2 ^ 63 ≤ findI (ss.getD 0 (.int 0)).asInt ∧ findI (ss.getD 0 (.int 0)).asInt < 2 ^ 63
    omega
  · split
    · exact zero_has
    · exact F1_has _ _

theorem F2_signs : Signs F2 := ⟨rfl, rfl⟩

namespace wid
def patU : SVal := .cons (.int .u32 (.var 0)) .nil
def findR (t : Tm) : SVal := .tup (.cons (.int .i64 (.app 910 t)) (.cons (.bool (.app 911 t)) .nil))
def sgL : Sg := { defs := fun g => match Nat.beq g 901 with | true => some Chk.chk | false => none, ufs := [(910, [5], 10), (911, [5], 11)], pop := 900 }
def kn : Kn := (((⟨[], [], [], [], [0, 1, 2, 3, 4, 5, 6, 7, 10]⟩ : Kn).tell (.le 10 4095) true).tell (.le 10 (-1)) false).tell (.lit 10 63) false
def ek (k : Nat) : Kn := kn.tell (.pt 0 (Int.ofNat k)) true
def withOp (k : Nat) (c : Cas) : Cas := ⟨c.pre, (0, false, .num (.ofNat k)) :: c.sub, c.pc⟩
end wid

theorem find_call {ρ : Env} (V : VarsOk ρ) (h0 : ρ.f 910 = F2 910) (h1 : ρ.f 911 = F2 911) : ∀ args h pc x, (pc.den ρ).asBool = true → (specR wid.patU wid.findR args h pc).get ρ = some x → CallOk ρ cx.globs cx.P 170 args h x := by
  refine specR_ok V globsC rfl (by intro u hu; simp [wid.patU, SVal.toList] at hu; subst hu; rfl) (fun _ => rfl) ?_
  intro L hL hp
  match L, hL with
  | [s], _ =>
    refine ⟨envOf F [.int s.asInt], ⟨.tup (.cons (.int .i64 (.num (findI s.asInt))) (.cons (.bool (.bit (findB s.asInt))) .nil)), [], .bit true⟩, ?_, fun ι => rfl, ?_⟩
    · intro K w0 ι w H _
      refine (find_inv s.asInt (inv_of (ι' := ι) H)).mono ?_
      rintro e w' ⟨rfl, hI⟩
      exact ⟨ι, Nm.Ext.refl _ _, Nat.le_refl _, inv_env hI _, rfl, rfl, rfl⟩
    · intro t ι ι' ht
      simp only [SVal.conc, SVal.concL, wid.findR, Tm.den, ht, h0, h1]
      rfl

/-- What the walks know: 'Check', how many ones, Find; Expand, Valid; 'awake'. -/
def widS (aw : Nat) : Specs := fun f => match Nat.beq f 170 with
  | true => some (specR wid.patU wid.findR)
  | false => match Nat.beq f 160 with
    | true => some (specC onesPat onesCond popR)
    | false => expS aw f

theorem ones_call' {ρ : Env} (V : VarsOk ρ) (hF : ρ.f 900 = F 900) : ∀ args h pc x, (pc.den ρ).asBool = true → (specC onesPat onesCond popR args h pc).get ρ = some x → CallOk ρ cx.globs cx.P 160 args h x := by
  refine specC_ok V globsC rfl (by intro u hu; simp [onesPat, SVal.toList] at hu; subst hu; rfl) (fun _ => rfl) ?_
  intro ts hl hp hc
  match ts, hl with
  | [t], _ =>
    have hp' : kHas .u64 (t.den ρ).asInt := hp.1
    have hp2 : 0 ≤ (t.den ρ).asInt ∧ (t.den ρ).asInt < 2 ^ 64 := hp'
    have hc' := hc (.op2 .le t (.num 65535)) (by simp [onesCond])
    have hc2 : (t.den ρ).asInt ≤ 65535 := of_decide_eq_true hc'
    obtain ⟨n, hn⟩ := Int.eq_ofNat_of_zero_le hp2.1
    have hn16 : n < 65536 := by omega
    obtain ⟨x, h1, h2⟩ := leafInt_get (envOf F0 [.int (n : Int)]) ones_run
    refine ⟨envOf F0 [.int (n : Int)], x, call_ok cxok (noS_ok _ _) (noS_body _) rfl h1, ?_, ?_⟩
    · intro ι
      simp only [onesPat, SVal.concL, SVal.conc, Tm.den, envOf, List.map_cons, List.map_nil, List.getD_cons_zero, Sc.asInt_int, hn]
    · intro u ι ι' hu
      rw [h2]
      have e := Ones.ones_den (ρ := envOf F0 [.int (n : Int)]) n hn16 rfl
      simp only [SVal.conc, popR, Tm.den, hu, hF]
      rw [e]
      have : F 900 [t.den ρ] = .int (popI (n : Int)) := by
        show Sc.int (popI (t.den ρ).asInt) = _
        rw [hn]
      simp only [List.map_cons, List.map_nil]
      rw [this, Ones.popI_small n hn16, ones_pop n hn16]

theorem widS_ok {aw : Nat} (h0 : isTrue (callT cx noS (run cx noS 3000) aw [] [] (.bit true)) = true) {ρ : Env} (V : VarsOk ρ) (hf : ρ.f = F2) : (widS aw).Ok ρ cx := by
  intro f sp h
  unfold widS at h
  split at h
  · rename_i hg
    have := Nat.eq_of_beq_eq_true hg; subst this
    simp only [Option.some.injEq] at h; subst h; exact find_call V (by rw [hf]) (by rw [hf])
  · split at h
    · rename_i hg
      have := Nat.eq_of_beq_eq_true hg; subst this
      simp only [Option.some.injEq] at h; subst h; exact ones_call' V (by rw [hf]; rfl)
    · exact expS_ok h0 V (by rw [hf]; exact F2_signs) (by rw [hf]; rfl) (by rw [hf]; rfl) f sp h

theorem widS_body {aw : Nat} (hb : ∃ fn c, cx.P.funcs[aw]? = some fn ∧ fn.body = some c) : ∀ f, widS aw f ≠ none → ∃ fn c, cx.P.funcs[f]? = some fn ∧ fn.body = some c := by
  intro f h
  unfold widS at h
  split at h
  · rename_i hg
    have := Nat.eq_of_beq_eq_true hg; subst this; exact ⟨Tryd.f170, _, Tryd.func170, rfl⟩
  · split at h
    · rename_i hg
      have := Nat.eq_of_beq_eq_true hg; subst this; exact ⟨Tryd.f160, _, Tryd.func160, rfl⟩
    · exact expS_body hb f h

/-- The scalars: an instruction's, a truth; its number's twelve bits. -/
noncomputable def Fields.scsW (x : Fields) (it : Bool) : List Sc := [.int x.x0, .int x.x1, .int x.x2, .int x.x3, .int x.x4, .int x.x5, .int x.x6, .int x.x7, .bool x.b, .bool it, .int (findI x.x5), .bool (findB x.x5)]

theorem scsW_ok {x : Fields} (h : x.Ok) (it : Bool) : VarsOk (envOf F2 (x.scsW it)) := by
  refine ⟨?_, F2_has⟩
  intro i
  match i with
  | 0 => exact h.h0
  | 1 => exact h.h1
  | 2 => exact h.h2
  | 3 => exact h.h3
  | 4 => exact h.h4
  | 5 => exact h.h5
  | 6 => exact h.h6
  | 7 => exact h.h7
  | 8 => exact zero_has
  | 9 => exact zero_has
  | 10 =>
    have := findI_range x.x5
    show -2 ^ 63 ≤ findI x.x5 ∧ findI x.x5 < 2 ^ 63
    omega
  | 11 => exact zero_has
  | n + 12 => exact zero_has

theorem knW_ok {x : Fields} (h : x.Ok) (it : Bool) : Sats (envOf F2 (x.scsW it)) wid.kn := by
  have r := findI_range x.x5
  have S : Sats (envOf F2 (x.scsW it)) ⟨[], [], [], [], [0, 1, 2, 3, 4, 5, 6, 7, 10]⟩ := by
    refine Sats.start (scsW_ok h it) _ ?_
    intro i hi
    simp only [List.mem_cons, List.not_mem_nil, or_false] at hi
    rcases hi with rfl | rfl | rfl | rfl | rfl | rfl | rfl | rfl | rfl
    all_goals exact ⟨_, rfl⟩
  have hb : bitI (findI x.x5) 63 = false := by
    rw [bitI_high _ 63 63 (by omega) (by omega) (by omega)]
    exact decide_eq_false (by omega)
  exact ((S.tell (.le 10 4095) (decide_eq_true (show findI x.x5 ≤ 4095 from r.2))).tell (.le 10 (-1)) (decide_eq_false (show ¬ findI x.x5 ≤ -1 by omega))).tell (.lit 10 63) hb

theorem sgL_ok {x : Fields} (it : Bool) : wid.sgL.Ok (envOf F2 (x.scsW it)) := by
  have s := sg_ok' (ρ := envOf F2 (x.scsW it)) F2_signs
  refine ⟨s.defs, ?_, s.pop⟩
  intro g xs y hm ss hss
  simp only [wid.sgL, List.mem_cons, List.not_mem_nil, or_false, Prod.mk.injEq] at hm
  have one : ∀ i : Nat, ss.map Sc.asInt = [i].map (fun v => ((envOf F2 (x.scsW it)).v v).asInt) → ∃ s, ss = [s] ∧ s.asInt = ((envOf F2 (x.scsW it)).v i).asInt := by
    intro i h
    match ss, h with
    | [s], h => exact ⟨s, rfl, by simpa using h⟩
    | [], h => simp at h
    | _ :: _ :: _, h => simp at h
  rcases hm with ⟨rfl, rfl, rfl⟩ | ⟨rfl, rfl, rfl⟩
  · obtain ⟨s, rfl, hs⟩ := one 5 hss
    show Sc.int (findI s.asInt) = Sc.int (findI x.x5)
    rw [hs]; rfl
  · obtain ⟨s, rfl, hs⟩ := one 5 hss
    show Sc.bool (findB s.asInt) = Sc.bool (findB x.x5)
    rw [hs]; rfl

theorem argW_conc (x : Fields) (it : Bool) (ι : Nm) : (argT (.var 0) (.var 1) (.var 3) (.var 5)).conc (envOf F2 (x.scsW it)) ι = x.val := rfl

set_option maxRecDepth 100000 in
theorem awake08 : isTrue (callT cx noS (run cx noS 3000) 34 [] [] (.bit true)) = true := by kernel_rfl
theorem body34 : ∃ fn c, cx.P.funcs[34]? = some fn ∧ fn.body = some c := ⟨Tryd.f34, _, Tryd.func34, rfl⟩

namespace wid
/-- The cases of an operation: 'Check' has refused it; or not (a branch by its condition). -/
def cases (k : Nat) : List Cas := Cb.refused k :: (match Nat.beq k 35 with
  | true => [Cb.lit 1 14, Cb.told [Cb.no (Cb.eq (Cb.V 1) (Cb.num 14))]]
  | false => [⟨[], [], []⟩])
def pat2 : List SVal := [argT (.var 0) (.var 1) (.var 3) (.var 5), .bool (.var 9)]
def pat1 : List SVal := [argT (.var 0) (.var 1) (.var 3) (.var 5)]
def nth (k j : Nat) : Cas := (cases k).getD j ⟨[], [], []⟩
noncomputable def at2 (f k j : Nat) : Bool := (withOp k (nth k j)).holds sgL cx (widS 34) 3000 f pat2 (ek k)
noncomputable def at1 (f k j : Nat) : Bool := (withOp k (nth k j)).holds sgL cx (widS 34) 3000 f pat1 (ek k)
def covered (k : Nat) : Bool := pxT sgL (anyT ((cases k).map Cas.cond)) (ek k) (fun _ => true)
def covAll : Nat → Bool
  | 0 => true
  | n + 1 => covered (n + 1) && covAll n
set_option maxRecDepth 100000 in
theorem cov45 : covAll 45 = true := by kernel_rfl
theorem cov_get : ∀ n, covAll n = true → ∀ k, 1 ≤ k → k ≤ n → covered k = true
  | 0, _, k, h, h' => by omega
  | n + 1, hc, k, h, h' => by
    simp only [covAll, Bool.and_eq_true] at hc
    by_cases e : k = n + 1
    · subst e; exact hc.1
    · exact cov_get n hc.2 k h (by omega)
def knLow : Kn := kn.tell (.le 0 0) true
def knHigh : Kn := kn.tell (.le 0 45) false
def refused : Tm := .op1 .not (.op2 .eq (.app 901 (argL (.var 0) (.var 1) (.var 3) (.var 5))) (.num 0))
set_option maxRecDepth 100000 in
theorem ref_low : pxT sgL refused knLow (fun _ => true) = true := by kernel_rfl
set_option maxRecDepth 100000 in
theorem ref_high : pxT sgL refused knHigh (fun _ => true) = true := by kernel_rfl
noncomputable def atq (f : Nat) (pat : List SVal) (e : Kn) : Bool := pxTree sgL (callT cx (widS 34) (run cx (widS 34) 3000) f pat [] refused) e
end wid

theorem wid_any {f : Nat} {pat : List SVal} {args : List Value} (hsc : ∀ v ∈ pat, v.sc 0 = true) (hlo : wid.atq f pat wid.knLow = true) (hhi : wid.atq f pat wid.knHigh = true)
    (hgo : ∀ k : Nat, 1 ≤ k → k ≤ 45 → ∀ j : Nat, j < (wid.cases k).length → (wid.withOp k (wid.nth k j)).holds wid.sgL cx (widS 34) 3000 f pat (wid.ek k) = true)
    {x : Fields} (hx : x.Ok) (it : Bool) (hpat : pat.map (·.conc (envOf F2 (x.scsW it)) ι0) = args) {w : World} (hw : Laid w) : Calls Tryd.prog f args.toArray w fun e w' => e = .returned (.bool true) ∧ Grown w w' := by
  have K := knW_ok hx it
  have so := sgL_ok (x := x) it
  have goq : ∀ e, Sats (envOf F2 (x.scsW it)) e → (wid.refused.den (envOf F2 (x.scsW it))).asBool = true → wid.atq f pat e = true → Calls Tryd.prog f args.toArray w fun e w' => e = .returned (.bool true) ∧ Grown w w' := by
    intro e hs hpc h
    have := law_px (ρ := envOf F2 (x.scsW it)) cxok (widS_ok awake08 (scsW_ok hx it) rfl) (widS_body body34) hsc hpc so hs h w (start _ hw)
    rw [hpat] at this
    exact this
  by_cases h1 : x.x0 < 1
  · have S := K.tell (.le 0 0) (decide_eq_true (show x.x0 ≤ 0 by omega))
    exact goq _ S (pxT_ok so S wid.ref_low).1 hlo
  by_cases h2 : 45 < x.x0
  · have S := K.tell (.le 0 45) (decide_eq_false (show ¬ x.x0 ≤ 45 by omega))
    exact goq _ S (pxT_ok so S wid.ref_high).1 hhi
  obtain ⟨k, hk⟩ := Int.eq_ofNat_of_zero_le (show 0 ≤ x.x0 by omega)
  have S := K.tell (.pt 0 (Int.ofNat k)) (b := true) (decide_eq_true (show x.x0 = Int.ofNat k by rw [hk]; rfl))
  obtain ⟨c, hc, hcond⟩ := cas_cov so S (wid.cov_get 45 wid.cov45 k (by omega) (by omega))
  obtain ⟨j, hj, hjc⟩ := List.getElem_of_mem hc
  have hnth : wid.nth k j = c := by simp only [wid.nth, List.getD, List.getElem?_eq_getElem hj, Option.getD_some, hjc]
  have hgo' := hgo k (by omega) (by omega) j hj
  rw [hnth] at hgo'
  have := holds_px (ρ := envOf F2 (x.scsW it)) (c := wid.withOp k c) cxok (widS_ok awake08 (scsW_ok hx it) rfl) (widS_body body34) hsc hcond so S hgo' w (start _ hw)
  rw [hpat] at this
  exact this

theorem wid_two {f : Nat} (hlo : wid.atq f wid.pat2 wid.knLow = true) (hhi : wid.atq f wid.pat2 wid.knHigh = true) (hgo : ∀ k : Nat, 1 ≤ k → k ≤ 45 → ∀ j : Nat, j < (wid.cases k).length → wid.at2 f k j = true)
    {x : Fields} (hx : x.Ok) (it : Bool) {w : World} (hw : Laid w) : Calls Tryd.prog f #[x.val, .bool it] w fun e w' => e = .returned (.bool true) ∧ Grown w w' :=
  wid_any (by intro v hv; simp [wid.pat2] at hv; rcases hv with rfl | rfl <;> rfl) hlo hhi hgo hx it rfl hw

theorem wid_one {f : Nat} (hlo : wid.atq f wid.pat1 wid.knLow = true) (hhi : wid.atq f wid.pat1 wid.knHigh = true) (hgo : ∀ k : Nat, 1 ≤ k → k ≤ 45 → ∀ j : Nat, j < (wid.cases k).length → wid.at1 f k j = true)
    {x : Fields} (hx : x.Ok) {w : World} (hw : Laid w) : Calls Tryd.prog f #[x.val] w fun e w' => e = .returned (.bool true) ∧ Grown w w' :=
  wid_any (by intro v hv; simp [wid.pat1] at hv; subst hv; rfl) hlo hhi hgo hx false rfl hw

end Go.Proofs.YtaiecnepchndkaaDoor
