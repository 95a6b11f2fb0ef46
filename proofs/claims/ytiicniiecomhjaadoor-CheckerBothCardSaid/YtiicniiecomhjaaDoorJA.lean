/- For the seat: texts joined: Base, Count, Ops, ChkDef, LaidW. -/
import Derived.Test.YtiicniiecomhjaaDoorJSxFlat
import Derived.Test.YtiicniiecomhjaaDoorJSxOnes
import Derived.Test.YtiicniiecomhjaaDoorRows
import Derived.ChangeVars
import Derived.RowKit
import Derived.WalkKit
import Derived.LoopTactic
import Derived.Outline
/- For the seat: the executor over its program, and the package's variable that is laid. -/
namespace Go.Proofs.YtiicniiecomhjaaDoor
open Go.Sx Go.ChangeShapes Go.WideShapes Go.RowKit Go.Joins Go.Deep

def kindsS : SVal := .ofList [.int .i64 (.num 0), .bool (.bit false), .int .i64 (.num 8), .bool (.bit true), .int .i64 (.num 11), .bool (.bit true), .int .i64 (.num 20), .bool (.bit true), .int .i64 (.num 24), .bool (.bit true), .int .i64 (.num 6), .bool (.bit false)]

noncomputable def cx : Cx := { P := Tryd.prog, okT := [29], globs := [(0, kindsS)] }

theorem cxok : cx.Ok := by
  refine ⟨?_, names_of (by kernel_rfl), by kernel_rfl⟩
  intro t ht
  simp only [cx, List.mem_cons, List.not_mem_nil, or_false] at ht
  subst ht
  exact ⟨by kernel_rfl, by kernel_rfl⟩

theorem globsC : Globs.Closed cx.globs := by
  intro g cs hg ρ ρ' ι
  simp only [cx, List.mem_cons, List.not_mem_nil, or_false, Prod.mk.injEq] at hg
  obtain ⟨rfl, rfl⟩ := hg
  rfl

def cells12 : Array Value := #[.int .i64 0, .bool false, .int .i64 8, .bool true, .int .i64 11, .bool true, .int .i64 20, .bool true, .int .i64 24, .bool true, .int .i64 6, .bool false]

theorem kinds_conc (ρ : Env) (ι : Nm) : kindsS.concL ρ ι = cells12.toList := rfl

/-- The laid variable stands there. -/
def Laid (w : World) : Prop := ∃ t fz, w.heap[0]? = some (.cells cells12 t fz)

theorem start (ρ : Env) {w : World} (h : Laid w) : HR ρ cx.globs (ownK w) w ι0 [] w := by
  obtain ⟨t, fz, hw⟩ := h
  refine ⟨rfl, rfl, rfl, Nat.le_refl _, fun _ _ => rfl, fun _ h => h, ?_, ?_, ?_⟩
  · intro n b hb; simp at hb
  · intro n m b c hb; simp at hb
  · intro g cs hg
    simp only [cx, List.mem_cons, List.not_mem_nil, or_false, Prod.mk.injEq] at hg
    obtain ⟨rfl, rfl⟩ := hg
    exact ⟨(Array.getElem?_eq_some_iff.1 hw).1, rfl, cells12, t, fz, hw, rfl⟩

theorem own : ownKnob Tryd.prog.godebug = none := by kernel_rfl
theorem kindsG : Tryd.prog.globalNamed "cartouche/offs.kinds" = some 0 := by kernel_rfl
theorem kindsT : (Tryd.prog.globals[0]?).map (·.type) = some 91 := by kernel_rfl
theorem cellsOf126 : Tryd.prog.cellsOf 91 = 12 := by kernel_rfl
theorem cellsOf125 : Tryd.prog.cellsOf 90 = 2 := by kernel_rfl
theorem cellsOf3 : Tryd.prog.cellsOf 3 = 1 := by kernel_rfl
theorem cellsOf4 : Tryd.prog.cellsOf 4 = 1 := by kernel_rfl
theorem under126 : Tryd.prog.underlying 91 = some (.array 6 90) := by kernel_rfl

theorem kind_of_trod {H : Type} {enc : TypeId × Value → H} {w : World} {base : Nat} {sp : Nat → Bool} {held : Bool} {fuel : Nat} {a b : Value} {y : DataW H × List MemPlace}
    (h : DataW.trod enc Tryd.prog w base sp held fuel 90 [a, b] = some y) : ∃ n s, a = .int .i64 n ∧ b = .bool s ∧ y.1 = .agg [.lit (.int .i64 n), .lit (.bool s)] := by
  obtain ⟨fs, hs, hsz, hone, hk⟩ : ∃ fs : Array Field, Tryd.prog.underlying 90 = some (.struct fs) ∧ fs.size = 2 ∧ oneCellFields Tryd.prog fs = true ∧ flatKinds Tryd.prog fs.toList = some [some .i64, none] :=
    ⟨_, Tryd.underlying90, rfl, by kernel_rfl, by kernel_rfl⟩
  obtain ⟨xs, n, rfl, hx, _, hl, hf⟩ := DataW.trod_struct hs h
  obtain ⟨_, hk2⟩ := flatKinds_at hk
  rw [hsz] at hl
  have e0 : fs[0]? = some (fs[0]'(by omega)) := Array.getElem?_eq_getElem (by omega)
  have e1 : fs[1]? = some (fs[1]'(by omega)) := Array.getElem?_eq_getElem (by omega)
  obtain ⟨x0, x1, rfl⟩ : ∃ x0 x1, xs = [x0, x1] := by
    match xs, hl with
    | [x0, x1], _ => exact ⟨x0, x1, rfl⟩
  have g0 := hf 0 _ e0
  have g1 := hf 1 _ e1
  obtain ⟨o0, c0⟩ := hone_of hone 0 _ e0
  obtain ⟨o1, c1⟩ := hone_of hone 1 _ e1
  rw [o0, c0] at g0
  rw [o1, c1] at g1
  have g0' : DataW.trod enc Tryd.prog w base sp held n _ [a] = some x0 := g0
  have g1' : DataW.trod enc Tryd.prog w base sp held n _ [b] = some x1 := g1
  rcases hk2 0 _ (by rw [Array.getElem?_toList]; exact e0) with ⟨k, u1, u2⟩ | ⟨u1, _⟩
  · rcases hk2 1 _ (by rw [Array.getElem?_toList]; exact e1) with ⟨k', v1, _⟩ | ⟨v1, v2⟩
    · simp at v1
    · simp at u1
      subst u1
      obtain ⟨n', r1, r2, _⟩ := DataW.trod_int u2 g0'
      obtain ⟨s, r3, r4⟩ := DataW.trod_bool v2 g1'
      simp only [List.cons.injEq, and_true] at r1 r3
      refine ⟨n', s, r1, r3, ?_⟩
      rw [hx, r2, r4]; rfl
  · simp at u1

theorem cells_of_laid {W : World} (h : laidMet Tryd.prog [("cartouche/offs.kinds", Rows.laid_cartouche_offs_kinds)] W) : W.var? Tryd.prog "cartouche/offs.kinds" = some cells12 := by
  obtain ⟨ps, ⟨g, t, cs, fuel, p, q, hg, ht, hvar, hd, _, _⟩, _⟩ := h
  obtain rfl := Option.some.inj (kindsG.symm.trans hg)
  obtain rfl := Option.some.inj (kindsT.symm.trans ht)
  rw [hvar]
  congr 1
  obtain ⟨l⟩ := cs
  cases fuel with
  | zero => simp [DataW.trod] at hd
  | succ fuel =>
    simp only [DataW.trod, under126, cellsOf126, cellsOf125] at hd
    split at hd
    · rename_i hl
      obtain ⟨c0, c1, c2, c3, c4, c5, c6, c7, c8, c9, c10, c11, rfl⟩ : ∃ c0 c1 c2 c3 c4 c5 c6 c7 c8 c9 c10 c11, l = [c0, c1, c2, c3, c4, c5, c6, c7, c8, c9, c10, c11] := by
        match l, hl with
        | [c0, c1, c2, c3, c4, c5, c6, c7, c8, c9, c10, c11], _ => exact ⟨c0, c1, c2, c3, c4, c5, c6, c7, c8, c9, c10, c11, rfl⟩
      have e : List.range 6 = [0, 1, 2, 3, 4, 5] := rfl
      rw [e] at hd
      simp only [Option.map_eq_some_iff, List.mapM_cons, List.mapM_nil, Option.bind_eq_bind, Option.bind_eq_some_iff, Option.pure_def, Option.some.injEq] at hd
      obtain ⟨xs, ⟨y0, h0, _, ⟨y1, h1, _, ⟨y2, h2, _, ⟨y3, h3, _, ⟨y4, h4, _, ⟨y5, h5, _, rfl, rfl⟩, rfl⟩, rfl⟩, rfl⟩, rfl⟩, rfl⟩, hx⟩ := hd
      obtain ⟨n0, s0, rfl, rfl, k0⟩ := kind_of_trod h0
      obtain ⟨n1, s1, rfl, rfl, k1⟩ := kind_of_trod h1
      obtain ⟨n2, s2, rfl, rfl, k2⟩ := kind_of_trod h2
      obtain ⟨n3, s3, rfl, rfl, k3⟩ := kind_of_trod h3
      obtain ⟨n4, s4, rfl, rfl, k4⟩ := kind_of_trod h4
      obtain ⟨n5, s5, rfl, rfl, k5⟩ := kind_of_trod h5
      have hx' := congrArg Prod.fst hx
      simp only [List.map_cons, List.map_nil, k0, k1, k2, k3, k4, k5, Rows.laid_cartouche_offs_kinds] at hx'
      simp at hx'
      obtain ⟨⟨rfl, rfl⟩, ⟨rfl, rfl⟩, ⟨rfl, rfl⟩, ⟨rfl, rfl⟩, ⟨rfl, rfl⟩, ⟨rfl, rfl⟩⟩ := hx'
      rfl
    · cases hd

theorem laid_of {W : World} (h : laidMet Tryd.prog [("cartouche/offs.kinds", Rows.laid_cartouche_offs_kinds)] W) : Laid W := by
  have hv := cells_of_laid h
  simp only [World.var?, kindsG, Option.bind_some] at hv
  split at hv
  · rename_i cs t fz hh
    simp only [Option.some.injEq] at hv
    subst hv
    exact ⟨t, fz, hh⟩
  · cases hv

end Go.Proofs.YtiicniiecomhjaaDoor
/- For the seat: the reference's count of ones, walked. -/
namespace Go.Proofs.YtiicniiecomhjaaDoor
open Go.Sx Go.RowKit Go.Sx.Ones

theorem popN_le : ∀ k n, popN k n ≤ k
  | 0, _ => Nat.le_refl _
  | k + 1, n => by have := popN_le k (n / 2); simp only [popN]; omega

theorem pop_half (m : Nat) (h : m < 9223372036854775808) : popN 64 m = m % 2 + popN 64 (m / 2) := by
  have e1 : popN 64 m = m % 2 + popN 63 (m / 2) := rfl
  have e2 : popN (63 + 1) (m / 2) = popN 63 (m / 2) + popN 1 (m / 2 / 2 ^ 63) := popN_add 63 1 (m / 2)
  have e3 : m / 2 / 2 ^ 63 = 0 := Nat.div_eq_of_lt (by omega)
  rw [e3, popN_zero] at e2
  rw [e1, show 64 = 63 + 1 from rfl, e2, Nat.add_zero]

def pop (n : Nat) : Nat := popN 64 n
theorem pop_zero : pop 0 = 0 := popN_zero 64
theorem pop_le (n : Nat) : pop n ≤ 64 := popN_le 64 n
theorem pop_step (m : Nat) (h : m < 9223372036854775808) : pop m = m % 2 + pop (m / 2) := pop_half m h


end Go.Proofs.YtiicniiecomhjaaDoor
/- For the seat: what the signs stand for; how many ones a number has. -/
namespace Go.Proofs.YtiicniiecomhjaaDoor
open Go.Sx Go.ChangeShapes Go.WideShapes Go.RowKit Go.Joins Go.Deep Go.Sx.Ones

/-- The signs: 900 how many ones. -/
def F0 (g : Nat) (ss : List Sc) : Sc :=
  match Nat.beq g 900 with
  | true => .int (popI (ss.getD 0 (.int 0)).asInt)
  | false => .int 0

/-- 901 whether an instruction may be. -/
def F (g : Nat) (ss : List Sc) : Sc :=
  match Nat.beq g 901 with
  | true => Chk.chk.den (envOf F0 ss)
  | false => F0 g ss

theorem zero_has : kHas .i64 0 := by show -2 ^ 63 ≤ (0 : Int) ∧ (0 : Int) < 2 ^ 63; omega
theorem six_has : kHas .i64 6 := by show -2 ^ 63 ≤ (6 : Int) ∧ (6 : Int) < 2 ^ 63; omega

theorem F0_has (g : Nat) (ss : List Sc) : kHas .i64 (F0 g ss).asInt := by
  unfold F0
  split
  · exact popI_has _
  · exact zero_has

theorem chk_has (η : Env) : kHas .i64 (Chk.chk.den η).asInt := by
  unfold Chk.chk
  simp only [Tm.den]
  split
  · exact zero_has
  · exact six_has

theorem F_has (g : Nat) (ss : List Sc) : kHas .i64 (F g ss).asInt := by
  unfold F
  split
  · exact chk_has _
  · exact F0_has _ _

def sg : Sg := { defs := fun g => match Nat.beq g 901 with | true => some Chk.chk | false => none, ufs := [], pop := 900 }

theorem chk_signs : Chk.chk.signs (fun g => Nat.beq g 900) = true := by decide +kernel

theorem sg_ok {ρ : Env} (hF : ρ.f = F) : sg.Ok ρ := by
  refine ⟨?_, ?_, ?_⟩
  · intro g t h ss
    simp only [sg] at h
    split at h
    · rename_i hg
      have := Nat.eq_of_beq_eq_true hg
      subst this
      simp only [Option.some.injEq] at h; subst h
      rw [hF]
      show Chk.chk.den (envOf F0 ss) = _
      refine den_congr (P := fun g => Nat.beq g 900) rfl ?_ _ chk_signs
      intro g hg
      have := Nat.eq_of_beq_eq_true hg
      subst this
      rfl
    · cases h
  · intro g xs y hm; cases hm
  · intro s _
    rw [hF]
    rfl

noncomputable def onesTree : Tree Res := callT cx noS (run cx noS 400) 75 [.int .u64 (.var 0)] [] (.bit true)
set_option maxRecDepth 100000 in
theorem ones_run : leafInt .i64 onesTree = some onesE := by kernel_rfl

set_option maxRecDepth 100000 in
theorem ok0 : allN 64 (fun a => okAt a) = true := by kernel_rfl
set_option maxRecDepth 100000 in
theorem ok1 : allN 64 (fun a => okAt (64 + a)) = true := by kernel_rfl
set_option maxRecDepth 100000 in
theorem ok2 : allN 64 (fun a => okAt (128 + a)) = true := by kernel_rfl
set_option maxRecDepth 100000 in
theorem ok3 : allN 64 (fun a => okAt (192 + a)) = true := by kernel_rfl

theorem ones_pop (n : Nat) (h : n < 65536) : onesN n = popN 16 n := by
  have key : ∀ a, a < 256 → okAt a = true := by
    intro a ha
    by_cases h1 : a < 64
    · exact allN_get _ _ ok0 a h1
    by_cases h2 : a < 128
    · have := allN_get _ _ ok1 (a - 64) (by omega); rwa [show 64 + (a - 64) = a by omega] at this
    by_cases h3 : a < 192
    · have := allN_get _ _ ok2 (a - 128) (by omega); rwa [show 128 + (a - 128) = a by omega] at this
    · have := allN_get _ _ ok3 (a - 192) (by omega); rwa [show 192 + (a - 192) = a by omega] at this
  have h1 := allN_get _ _ (key (n / 256) (by omega)) (n % 256) (by omega)
  have h2 := Nat.eq_of_beq_eq_true h1
  have h3 : Nat.add (Nat.mul 256 (n / 256)) (n % 256) = n := Nat.div_add_mod n 256
  rw [h3] at h2
  exact h2

def onesPat : SVal := .cons (.int .u64 (.var 0)) .nil
def onesCond (ts : List Tm) : List Tm := [.op2 .le (ts.getD 0 (.num 0)) (.num 65535)]
def popR (t : Tm) : SVal := .int .i64 (.app 900 t)
def countPat : SVal := .cons (.int .i64 (.var 0)) .nil
def countCond (ts : List Tm) : List Tm := [.op2 .le (.num 0) (ts.getD 0 (.num 0))]

theorem ones_call {ρ : Env} (V : VarsOk ρ) (hF : ρ.f = F) : ∀ args h pc x, (pc.den ρ).asBool = true → (specC onesPat onesCond popR args h pc).get ρ = some x → CallOk ρ cx.globs cx.P 75 args h x := by
  refine specC_ok V globsC rfl (by intro u hu; simp [onesPat, SVal.toList] at hu; subst hu; rfl) (fun _ => rfl) ?_
  intro ts hl hp hc
  match ts, hl with
  | [t], _ =>
    have hp' : kHas .u64 (t.den ρ).asInt := hp.1
    have hp2 : 0 ≤ (t.den ρ).asInt ∧ (t.den ρ).asInt < 2 ^ 64 := hp'
    have hc' := hc (.op2 .le t (.num 65535)) (by simp [onesCond])
    have hc2 : (t.den ρ).asInt ≤ 65535 := of_decide_eq_true hc'
    obtain ⟨n, hn⟩ := Int.eq_ofNat_of_zero_le hp2.1
    have hn16 : n < 65536 := by omega
    obtain ⟨x, h1, h2⟩ := leafInt_get (envOf F0 [.int (n : Int)]) ones_run
    refine ⟨envOf F0 [.int (n : Int)], x, call_ok cxok (noS_ok _ _) (noS_body _) rfl h1, ?_, ?_⟩
    · intro ι
      simp only [onesPat, SVal.concL, SVal.conc, Tm.den, envOf, List.map_cons, List.map_nil, List.getD_cons_zero, Sc.asInt_int, hn]
    · intro u ι ι' hu
      rw [h2]
      have e := ones_den (ρ := envOf F0 [.int (n : Int)]) n hn16 rfl
      simp only [SVal.conc, popR, Tm.den, hu, hF]
      rw [e]
      have : F 900 [t.den ρ] = .int (popI (n : Int)) := by
        show Sc.int (popI (t.den ρ).asInt) = _
        rw [hn]
      simp only [List.map_cons, List.map_nil]
      rw [this, popI_small n hn16, ones_pop n hn16]


/-- How many ones: known. -/
def popS : Specs := fun f => match f with
  | 75 => some (specC onesPat onesCond popR)
  | _ => none

theorem popS_ok {ρ : Env} (V : VarsOk ρ) (hF : ρ.f = F) : popS.Ok ρ cx := by
  intro f sp h
  unfold popS at h
  split at h
  · simp only [Option.some.injEq] at h; subst h; exact ones_call V hF
  · cases h

theorem popS_body : ∀ f, popS f ≠ none → ∃ fn c, cx.P.funcs[f]? = some fn ∧ fn.body = some c := by
  intro f h
  unfold popS at h
  split at h
  · exact ⟨Tryd.f75, _, Tryd.func75, rfl⟩
  · exact (h rfl).elim

end Go.Proofs.YtiicniiecomhjaaDoor
/- For the seat: 'Check' of both packages: the cases of the input. -/
namespace Go.Proofs.YtiicniiecomhjaaDoor
open Go.Sx

def argT (o c n i : Tm) : SVal :=
  .agg (.cons (.int .i64 o) (.cons (.int .i64 c) (.cons (.int .i64 (.var 2)) (.cons (.int .i64 n) (.cons (.int .i64 (.var 4)) (.cons (.int .i64 i) (.cons (.int .i64 (.var 6)) (.cons (.int .i64 (.var 7)) (.cons (.bool (.var 8)) .nil)))))))))
def argL (o c n i : Tm) : Tm :=
  .cons o (.cons c (.cons (.var 2) (.cons n (.cons (.var 4) (.cons i (.cons (.var 6) (.cons (.var 7) (.cons (.var 8) .nil))))))))

def kn0 : Kn := ⟨[], [], [], [], [0, 1, 2, 3, 4, 5, 6, 7]⟩

namespace chk
def v (i : Nat) : Tm := .var i
def lt (a : Tm) (k : Int) : Tm := .op2 .lt a (.num k)
def gt (a : Tm) (k : Int) : Tm := .op2 .lt (.num k) a
def no (a : Tm) : Tm := .op1 .not a

/-- The error's number at some inputs is the sign's. -/
noncomputable def at' (f : Nat) (o c n i : Tm) (l : List Tm) (e : Kn) : Bool := pxInt sg .i64 (.app 901 (argL o c n i)) (callT cx popS (run cx popS 400) f [argT o c n i] [] (l.foldr mkAnd (.bit true))) e
noncomputable def goes (f k : Nat) : Bool := at' f (.num (Int.ofNat k)) (v 1) (v 3) (v 5) [] kn0
noncomputable def its (f c : Nat) : Bool := (List.range' 1 15).all fun m => at' f (.num 42) (.num (Int.ofNat c)) (v 3) (.num (Int.ofNat m)) [] kn0
noncomputable def low (f : Nat) : Bool := at' f (v 0) (v 1) (v 3) (v 5) [lt (v 0) 1] (kn0.tell (.le 0 0) true)
noncomputable def high (f : Nat) : Bool := at' f (v 0) (v 1) (v 3) (v 5) [no (lt (v 0) 1), gt (v 0) 45] (kn0.tell (.le 0 45) false)
noncomputable def itA (f : Nat) : Bool := at' f (.num 42) (v 1) (v 3) (v 5) [lt (v 1) 0] (kn0.tell (.le 1 (-1)) true)
noncomputable def itB (f : Nat) : Bool := at' f (.num 42) (v 1) (v 3) (v 5) [no (lt (v 1) 0), gt (v 1) 14] (kn0.tell (.le 1 14) false)
noncomputable def itC (f : Nat) : Bool := at' f (.num 42) (v 1) (v 3) (v 5) [no (lt (v 1) 0), no (gt (v 1) 14), lt (v 5) 1] (kn0.tell (.le 5 0) true)
noncomputable def itD (f : Nat) : Bool := at' f (.num 42) (v 1) (v 3) (v 5) [no (lt (v 1) 0), no (gt (v 1) 14), no (lt (v 5) 1), gt (v 5) 15] (kn0.tell (.le 5 15) false)
end chk
end Go.Proofs.YtiicniiecomhjaaDoor
/- For the seat: a world in which the variable is laid. -/
namespace Go.Proofs.YtiicniiecomhjaaDoor
open Go.Sx Go.ChangeShapes Go.WideShapes Go.RowKit Go.Joins Go.Deep
set_option maxRecDepth 100000
/-- A world in which the variable is laid. -/
noncomputable def laidWorld (os : Os) : World :=
  { World.holding Tryd.prog os ⟨#[], #[], []⟩ with heap := (World.holding Tryd.prog os ⟨#[], #[], []⟩).heap.modify 0 fun
      | .cells _ t frozen => .cells cells12 t frozen
      | o => o }

set_option maxRecDepth 100000 in
theorem laid_met (W : World) (h0 : W.heap[0]? = some (.cells cells12 91 (0, 0))) : laidMet Tryd.prog [("cartouche/offs.kinds", Rows.laid_cartouche_offs_kinds)] W := by
  refine ⟨_, ⟨0, 91, cells12, 8, [], [], by kernel_rfl, by kernel_rfl, ?_, by kernel_rfl, rfl, rfl⟩, by decide, fun b off h => ?_⟩
  · simp only [World.var?, kindsG, Option.bind_some, h0]
  · have h' : MemPlace.cell b off ∈ [MemPlace.cell 0 0, .cell 0 1, .cell 0 2, .cell 0 3, .cell 0 4, .cell 0 5, .cell 0 6, .cell 0 7, .cell 0 8, .cell 0 9, .cell 0 10, .cell 0 11] := h
    have hb : b = 0 := by
      simp at h'
      omega
    subst hb
    refine ⟨⟨_, _, h0⟩, fun u v hc => ?_⟩
    simp only [World.cell?, h0] at hc
    simp at h'
    rcases h' with rfl | rfl | rfl | rfl | rfl | rfl | rfl | rfl | rfl | rfl | rfl | rfl <;> simp [cells12] at hc

end Go.Proofs.YtiicniiecomhjaaDoor
