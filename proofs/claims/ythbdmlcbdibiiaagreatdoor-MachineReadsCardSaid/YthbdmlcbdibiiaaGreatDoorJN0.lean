/- For the seat: texts joined: Cnt5, EncDef. -/
import Derived.Test.YthbdmlcbdibiiaaGreatDoorJL1x0
import Derived.Test.YthbdmlcbdibiiaaGreatDoorJL2x0
import Derived.Test.YthbdmlcbdibiiaaGreatDoorJSxBackX
/- For the seat: the reference's count of registers, as the sign 'how many ones'. -/
namespace Go.Proofs.YthbdmlcbdibiiaaGreatDoor
open Go.Sx Go.ChangeShapes Go.WideShapes Go.RowKit Go.Joins Go.Deep Go.Sx.Ones
set_option maxRecDepth 100000 in
theorem hasB_bit (n r : Nat) (hr : r < 64) : hasB n r = n.testBit r := by
  have hb := bitsOp_bit .i64 (fun a b => a &&& b) (· && ·) (by intro a b i _; simp) (shrOp .i64 n r) 1 0 (by decide)
  have hs : shrOp .i64 (n : Int) (r : Int) = (n : Int) / 2 ^ r := by
    show (n : Int).fdiv (2 ^ (min (r : Int).toNat 64)) = _
    rw [Int.toNat_natCast, Nat.min_eq_left (by omega)]
    exact Int.fdiv_eq_ediv_of_nonneg _ (Int.le_of_lt (Int.pow_pos (by omega)))
  have h1 : bitI 1 0 = true := by decide
  have hz : bitI (shrOp .i64 (n : Int) (r : Int)) 0 = n.testBit r := by
    rw [← bitI_nat, hs]
    unfold bitI
    rw [Int.pow_zero, Int.ediv_one]
  rw [h1, Bool.and_true, hz] at hb
  show (bitsOp .i64 (fun a b => a &&& b) (shrOp .i64 n r) 1 == 1) = _
  rcases and_one .i64 (shrOp .i64 (n : Int) (r : Int)) with e | e <;> rw [e] at hb ⊢
  · rw [← hb]; decide
  · rw [← hb]; decide
set_option maxRecDepth 100000 in
theorem popN_last (k n : Nat) : popN (k + 1) n = popN k n + (if n.testBit k then 1 else 0) := by
  rw [popN_add k 1 n]
  congr 1
  show n / 2 ^ k % 2 + 0 = _
  rw [Nat.testBit_eq_decide_div_mod_eq]
  by_cases h : n / 2 ^ k % 2 = 1
  · simp [h]
  · have : n / 2 ^ k % 2 = 0 := by omega
    simp [this]
set_option maxRecDepth 100000 in
theorem regsB_pop (n : Nat) : ∀ k, k ≤ 16 → (regsB n k).length = popN k n
  | 0, _ => rfl
  | k + 1, hk => by
    rw [popN_last, ← regsB_pop n k (by omega), ← hasB_bit n k (by omega)]
    cases h : hasB n k
    · rw [regsB_no h]; simp
    · rw [regsB_yes h]; simp
set_option maxRecDepth 100000 in
theorem own_slice5 {w : World} {base : Nat} {e : TypeId} {size : Nat} {v : Value} {n : Nat} {xs : List Value} (h : w.ownsRow base e size v n xs) : ∃ A cap, v = .slice A n cap := by
  rcases h.2 with ⟨rfl, rfl⟩ | ⟨g, cap, cur, rfl, _⟩
  · exact ⟨_, _, rfl⟩
  · exact ⟨_, _, rfl⟩
set_option maxRecDepth 100000 in
theorem count5_any (l : Int) (hl : kHas .i64 l) (w : World) (hw : Laid w) :
    Calls Tryz.prog 137 #[.int .i64 l] w fun e w' => e = .returned (.int .i64 (regsB l 16).length) ∧ Below w.heap.size w w' := by
  have HL := Lib.hid hl
  clear hl
  go_enter Tryz.func137, Tryz.ntmps137
  go_wp2_with fail
  ((with_reducible refine (all5_any l HL.out w hw).mono ?_); rintro e w1 ⟨v, rfl, hown, hb⟩)
  obtain ⟨A, cap, rfl⟩ := own_slice5 hown
  go_wp2
  go_ret
  exact ⟨rfl, hb⟩
set_option maxRecDepth 100000 in
theorem count5_ans {n : Nat} (h : n < 65536) : Ans 137 [.int .i64 n] (.int .i64 (popI n)) := by
  intro w hw
  have := count5_any n (by show -2 ^ 63 ≤ (n : Int) ∧ (n : Int) < 2 ^ 63; omega) w hw
  rw [regsB_pop n 16 (Nat.le_refl _), ← Ones.popI_small n h] at this
  exact this
def cnt5Cond (ts : List Tm) : List Tm := [.op2 .le (.num 0) (ts.getD 0 (.num 0)), .op2 .le (ts.getD 0 (.num 0)) (.num 65535)]
set_option maxRecDepth 100000 in
theorem count5_call {ρ : Env} (V : VarsOk ρ) (hF : ρ.f 900 = F 900) : ∀ args h pc x, (pc.den ρ).asBool = true → (specC countPat cnt5Cond popR args h pc).get ρ = some x → CallOk ρ cx.globs cx.P 137 args h x := by
  refine specC_ok V globsC rfl (by intro u hu; simp [countPat, SVal.toList] at hu; subst hu; rfl) (fun _ => rfl) ?_
  intro ts hl hp hc
  match ts, hl with
  | [t], _ =>
    have hc1 : 0 ≤ (t.den ρ).asInt := of_decide_eq_true (hc (.op2 .le (.num 0) t) (by simp [cnt5Cond]))
    have hc2 : (t.den ρ).asInt ≤ 65535 := of_decide_eq_true (hc (.op2 .le t (.num 65535)) (by simp [cnt5Cond]))
    obtain ⟨n, hn⟩ := Int.eq_ofNat_of_zero_le hc1
    refine ⟨envOf F0 [.int (n : Int)], ⟨.int .i64 (.num (popI (n : Int) : Int)), [], .bit true⟩, rfl, ?_, ?_, ?_⟩
    · exact Ans.ok (fun ι => count5_ans (n := n) (by omega)) rfl
    · intro ι
      simp only [countPat, SVal.concL, SVal.conc, Tm.den, envOf, envA, envA, List.map_cons, List.map_nil, List.getD_cons_zero, Sc.asInt_int, hn]
    · intro u ι ι' hu
      simp only [SVal.conc, popR, Tm.den, hu, hF]
      have : F 900 [t.den ρ] = .int (popI (n : Int)) := by
        show Sc.int (popI (t.den ρ).asInt) = _
        rw [hn]
      simp only [List.map_cons, List.map_nil]
      rw [this]
end Go.Proofs.YthbdmlcbdibiiaaGreatDoor
/- For the seat: the reference's encoders, read back by the program's decoders: the cases. -/
namespace Go.Proofs.YthbdmlcbdibiiaaGreatDoor
open Go.Sx Go.ChangeShapes Go.WideShapes Go.RowKit Go.Joins Go.Deep
def encS : Specs := fun f => match Nat.beq f 137 with
  | true => some (specC countPat cnt5Cond popR)
  | false => wdnS f
set_option maxRecDepth 100000 in
theorem encS_ok {ρ : Env} (V : VarsOk ρ) (hf : ρ.f = F2) : encS.Ok ρ cx := by
  intro f sp h
  unfold encS at h
  split at h
  · rename_i hg
    have := Nat.eq_of_beq_eq_true hg; subst this
    simp only [Option.some.injEq] at h; subst h; exact count5_call V (by rw [hf]; rfl)
  · exact wdnS_ok V hf f sp h
set_option maxRecDepth 100000 in
theorem encS_body : ∀ f, encS f ≠ none → ∃ fn c, cx.P.funcs[f]? = some fn ∧ fn.body = some c := by
  intro f h
  unfold encS at h
  split at h
  · rename_i hg
    have := Nat.eq_of_beq_eq_true hg; subst this; exact ⟨Tryz.f137, _, Tryz.func137, rfl⟩
  · exact wdnS_body f h
structure EncX (ex : List Tm → Tm) (E D n : Nat) (x : Fields) (it : Bool) (p : List Int × Bool) : Prop where
  enc : EncP E D n x it p
  more : p.2 = true → ∃ (l : List Tm) (ρ : Env), (l.map fun a => (a.den ρ).asInt) = p.1 ∧ ((ex l).den ρ).asBool = true
set_option maxRecDepth 100000 in
theorem encX_of {ex : List Tm → Tm} {E D n : Nat} {x : Fields} (hx : x.Ok) (it : Bool)
    (h : ∃ (y : Res) (l : List Tm) (t : Tm), CallOk (envOf F2 (x.scsW it)) cx.globs cx.P E [apt.ins, apt.it] [] y ∧ answerOf y.v = some (l, t) ∧ l.length = n ∧
      ((t.den (envOf F2 (x.scsW it))).asBool = true → ((ex l).den (envOf F2 (x.scsW it))).asBool = true ∧ ∃ (y : Res) (v : SVal) (o : Tm), CallOk (envOf F2 (x.scsW it)) cx.globs cx.P D (l.map (.int .i64) ++ [apt.it]) [] y ∧ insOf y.v = some (v, o) ∧ (o.den (envOf F2 (x.scsW it))).asBool = true ∧ ∀ ι ι', v.conc (envOf F2 (x.scsW it)) ι = apt.ins.conc (envOf F2 (x.scsW it)) ι')) :
    ∃ p, EncX ex E D n x it p := by
  obtain ⟨y, l, t, hc, ha, hl, hd⟩ := h
  obtain ⟨a1, a2⟩ := answerOf_ok (ρ := envOf F2 (x.scsW it)) ha
  refine ⟨(l.map fun a => (a.den (envOf F2 (x.scsW it))).asInt, (t.den (envOf F2 (x.scsW it))).asBool), ⟨by simpa using hl, ?_, ?_, ?_⟩, ?_⟩
  · intro a h
    obtain ⟨b, hb, rfl⟩ := List.mem_map.1 h
    exact inK_ok (scsW_ok hx it) .i64 b (a2 b hb)
  · refine ans_of hc (by intro v hv; simp only [List.mem_cons, List.not_mem_nil, or_false] at hv; rcases hv with rfl | rfl <;> rfl) rfl ?_
    intro ι'
    rw [a1 ι', List.map_map]
    rfl
  · intro ht
    obtain ⟨_, y2, v, o, hc2, hi, ho, hv⟩ := hd ht
    refine ans_of hc2 (by
      intro v hv
      simp only [List.mem_append, List.mem_map, List.mem_cons, List.not_mem_nil, or_false] at hv
      rcases hv with ⟨u, _, rfl⟩ | rfl <;> rfl) ?_ ?_
    · rw [List.map_append, List.map_map, List.map_map]
      rfl
    · intro ι'
      rw [insOf_conc hi ι', ho, hv ι' ι']
      rfl
  · intro ht
    exact ⟨l, envOf F2 (x.scsW it), rfl, (hd ht).1⟩
namespace enc
noncomputable def natX (S : Specs) (ex : List Tm → Tm) (E D k j : Nat) : Bool := pxBoth wid.sgL (backTreeX cxs' S 3000 E D 1 ex apt.ins apt.it (wid.withOp k (apt.nthN k j))) (wid.ek k)
noncomputable def vatX (S : Specs) (ex : List Tm → Tm) (E D k j : Nat) : Bool := pxBoth (apt.sgOf (apt.nthV k j).1) (backTreeX cxs' S 3000 E D 2 ex apt.ins apt.it (wid.withOp k (apt.nthV k j).2)) (wid.ek k)
noncomputable def atq (S : Specs) (ex : List Tm → Tm) (E D n : Nat) (e : Kn) : Bool := pxBoth wid.sgL (backTreeX cxs' S 3000 E D n ex apt.ins apt.it apt.cq) e
end enc
set_option maxRecDepth 100000 in
theorem xxN {S : Specs} (hS : ∀ {ρ : Env}, VarsOk ρ → ρ.f = F2 → S.Ok ρ cx) (hB : ∀ f, S f ≠ none → ∃ fn c, cx.P.funcs[f]? = some fn ∧ fn.body = some c) {ex : List Tm → Tm} {E D : Nat} {x : Fields} (hx : x.Ok) (it : Bool)
    (hlo : enc.atq S ex E D 1 wid.knLow = true) (hhi : enc.atq S ex E D 1 wid.knHigh = true) (hcov : ∀ k : Nat, 1 ≤ k → k ≤ 45 → apt.covN k = true)
    (hgo : ∀ k : Nat, 1 ≤ k → k ≤ 45 → ∀ j : Nat, j < (Cb.casesN k).length → enc.natX S ex E D k j = true) : ∃ p, EncX ex E D 1 x it p := by
  have Kn := knW_ok hx it
  have so := sgL_ok (x := x) it
  have hSo := hS (scsW_ok hx it) rfl
  have H := start (envOf F2 (x.scsW it)) lw_laid
  by_cases h1 : x.x0 < 1
  · have S := Kn.tell (.le 0 0) (decide_eq_true (show x.x0 ≤ 0 by omega))
    exact encX_of hx it (backX_ok cxsok' hSo hB rfl rfl (cq_cond (pxT_ok so S wid.ref_low).1) so S hlo H)
  by_cases h2 : 45 < x.x0
  · have S := Kn.tell (.le 0 45) (decide_eq_false (show ¬ x.x0 ≤ 45 by omega))
    exact encX_of hx it (backX_ok cxsok' hSo hB rfl rfl (cq_cond (pxT_ok so S wid.ref_high).1) so S hhi H)
  obtain ⟨k, hk⟩ := Int.eq_ofNat_of_zero_le (show 0 ≤ x.x0 by omega)
  have S := Kn.tell (.pt 0 (Int.ofNat k)) (b := true) (decide_eq_true (show x.x0 = Int.ofNat k by rw [hk]; rfl))
  obtain ⟨c, hc, hcond⟩ := cas_cov so S (hcov k (by omega) (by omega))
  obtain ⟨j, hj, hjc⟩ := List.getElem_of_mem hc
  have hnth : apt.nthN k j = c := by simp only [apt.nthN, List.getD, List.getElem?_eq_getElem hj, Option.getD_some, hjc]
  have hgo' := hgo k (by omega) (by omega) j hj
  rw [enc.natX, hnth] at hgo'
  exact encX_of hx it (backX_ok (c := wid.withOp k c) cxsok' hSo hB rfl rfl hcond so S hgo' H)
set_option maxRecDepth 100000 in
theorem xxV {S : Specs} (hS : ∀ {ρ : Env}, VarsOk ρ → ρ.f = F2 → S.Ok ρ cx) (hB : ∀ f, S f ≠ none → ∃ fn c, cx.P.funcs[f]? = some fn ∧ fn.body = some c) {ex : List Tm → Tm} {E D : Nat} {x : Fields} (hx : x.Ok) (it : Bool)
    (hlo : enc.atq S ex E D 2 wid.knLow = true) (hhi : enc.atq S ex E D 2 wid.knHigh = true) (hcov : ∀ k : Nat, 1 ≤ k → k ≤ 45 → apt.covV k = true)
    (hgo : ∀ k : Nat, 1 ≤ k → k ≤ 45 → ∀ j : Nat, j < (apt.casesV k).length → enc.vatX S ex E D k j = true) : ∃ p, EncX ex E D 2 x it p := by
  have Kn := knW_ok hx it
  have so := sgL_ok (x := x) it
  have hSo := hS (scsW_ok hx it) rfl
  have H := start (envOf F2 (x.scsW it)) lw_laid
  by_cases h1 : x.x0 < 1
  · have S := Kn.tell (.le 0 0) (decide_eq_true (show x.x0 ≤ 0 by omega))
    exact encX_of hx it (backX_ok cxsok' hSo hB rfl rfl (cq_cond (pxT_ok so S wid.ref_low).1) so S hlo H)
  by_cases h2 : 45 < x.x0
  · have S := Kn.tell (.le 0 45) (decide_eq_false (show ¬ x.x0 ≤ 45 by omega))
    exact encX_of hx it (backX_ok cxsok' hSo hB rfl rfl (cq_cond (pxT_ok so S wid.ref_high).1) so S hhi H)
  obtain ⟨k, hk⟩ := Int.eq_ofNat_of_zero_le (show 0 ≤ x.x0 by omega)
  have S := Kn.tell (.pt 0 (Int.ofNat k)) (b := true) (decide_eq_true (show x.x0 = Int.ofNat k by rw [hk]; rfl))
  obtain ⟨t, ht, hcond⟩ := anyT_den _ _ (pxT_ok so S (hcov k (by omega) (by omega))).1
  obtain ⟨c, hc, rfl⟩ := List.mem_map.1 ht
  obtain ⟨j, hj, hjc⟩ := List.getElem_of_mem hc
  have hnth : apt.nthV k j = c := by simp only [apt.nthV, List.getD, List.getElem?_eq_getElem hj, Option.getD_some, hjc]
  have hgo' := hgo k (by omega) (by omega) j hj
  rw [enc.vatX, hnth] at hgo'
  cases hb : c.1 with
  | false =>
    rw [hb] at hgo'
    exact encX_of hx it (backX_ok (c := wid.withOp k c.2) cxsok' hSo hB rfl rfl hcond so S hgo' H)
  | true =>
    rw [hb] at hgo'
    have tl := List.all_eq_true.1 (apt.tellsV_get 45 apt.tellsV45 k (by omega) (by omega)) c hc
    simp only [apt.tells, hb, Bool.not_true, Bool.false_or, Bool.and_eq_true, List.contains_iff_mem] at tl
    have hall := allT_den _ _ hcond
    have q1 : (decide ((0 : Int) ≤ x.x5)) = true := hall _ tl.2.1
    have q2 : (decide (x.x5 ≤ (4294967295 : Int))) = true := hall _ tl.2.2
    have q3 : findB (IntKind.u32.wrap x.x5) = true := hall _ tl.1
    have r1 := of_decide_eq_true q1
    have r2 := of_decide_eq_true q2
    have hw : IntKind.u32.wrap x.x5 = x.x5 := wrap_eq (k := .u32) ⟨r1, by show x.x5 < 2 ^ 32; omega⟩ (fun _ _ => rfl)
    rw [hw] at q3
    exact encX_of hx it (backX_ok (c := wid.withOp k c.2) cxsok' hSo hB rfl rfl hcond (sgF_ok it q3) S hgo' H)
namespace enc
def longOf (t : Tm) : Tm := .op2 .band (.op2 .eq (.op2 (.and .i64) t (.num 57344)) (.num 57344)) (.op1 .not (.op2 .eq (.op2 (.and .i64) t (.num 6144)) (.num 0)))
def lowOf (t : Tm) : Tm := .op2 .eq (.op2 (.and .i64) t (.num 65535)) t
def exShort (l : List Tm) : Tm := .op2 .band (.op1 .not (longOf (l.getD 0 (.num 0)))) (lowOf (l.getD 0 (.num 0)))
def exLong (l : List Tm) : Tm := .op2 .band (longOf (l.getD 0 (.num 0))) (.op2 .band (lowOf (l.getD 0 (.num 0))) (lowOf (l.getD 1 (.num 0))))
noncomputable def nat (k j : Nat) : Bool := natX encS exShort 51 103 k j
noncomputable def vat (k j : Nat) : Bool := vatX encS exLong 50 104 k j
noncomputable def nq (e : Kn) : Bool := atq encS exShort 51 103 1 e
noncomputable def vq (e : Kn) : Bool := atq encS exLong 50 104 2 e
end enc
end Go.Proofs.YthbdmlcbdibiiaaGreatDoor
