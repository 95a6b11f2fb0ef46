/- For the seat: texts joined: Ints, Count, Ops, ChkDef, Float, AluAdd, McAlu, LaidW, Enter. -/
import Derived.Test.YthbdmlcbdibiiaaGreatDoorJL0x0
import Derived.WalkKit
import Derived.OwnWalk
import Derived.LoopTactic
import Derived.BigQuiet
import Derived.Deep.QuietTactic
import Derived.Laws.OwnMore
import Derived.Deep.AppendLies
import Derived.Lib.Hide
import Derived.Outline
import Ieee.Arith
import Derived.Test.YthbdmlcbdibiiaaGreatDoorProg
import Derived.Laws.ComplexArith
import Derived.ChangeVars
import Derived.Test.YthbdmlcbdibiiaaGreatDoorCards
import Derived.Test.YthbdmlcbdibiiaaGreatDoorTie
/- For the seat: slices of numbers: how they read, and how they are made. -/
namespace Go.Proofs.YthbdmlcbdibiiaaGreatDoor
open Go.RowKit Go.Sx Go.Deep
set_option maxRecDepth 100000 in
theorem intInfo : (Tryz.prog.info? 3).map (fun i => (i.zero, i.size, i.bytes)) = some (some (.int .i64 0), 1, 8) := by kernel_rfl
def encI (l : List Int) : List Value := l.map (Value.int .i64)
set_option maxRecDepth 100000 in
theorem encI_snoc (l : List Int) (a : Int) : encI (l ++ [a]) = encI l ++ [.int .i64 a] := by simp [encI]
def IAt (w : World) (B : Nat) (A : Option Addr) (l : List Int) : Prop :=
  l ≠ [] → ∃ g off, A = some ⟨g, off, none⟩ ∧ g < B ∧ ∀ (i : Nat) (a : Int), l[i]? = some a → w.cell? ⟨g, off + i, none⟩ = some (.int .i64 a)
set_option maxRecDepth 100000 in
theorem IAt.nil (w : World) (B : Nat) (A : Option Addr) : IAt w B A [] := fun h => absurd rfl h
set_option maxRecDepth 100000 in
theorem IAt.keep {w w' : World} {B : Nat} {A : Option Addr} {l : List Int} (h : IAt w B A l) (hk : ∀ p : Addr, p.block < B → ∀ v, w.cell? p = some v → w'.cell? p = some v) : IAt w' B A l := by
  intro hn
  obtain ⟨g, off, e, hb, hc⟩ := h hn
  exact ⟨g, off, e, hb, fun i p hp => hk _ hb _ (hc i p hp)⟩
set_option maxRecDepth 100000 in
theorem IAt.below {w w' : World} {B B' : Nat} {A : Option Addr} {l : List Int} (h : IAt w B A l) (hb : Below B' w w') (hB : B ≤ B') : IAt w' B A l := h.keep fun _ hp _ e => (hb.cell (by omega)).trans e
set_option maxRecDepth 100000 in
theorem IAt.more {w : World} {B B' : Nat} {A : Option Addr} {l : List Int} (h : IAt w B A l) (hB : B ≤ B') : IAt w B' A l := by
  intro hn
  obtain ⟨g, off, e, hb, hc⟩ := h hn
  exact ⟨g, off, e, by omega, hc⟩
set_option maxRecDepth 100000 in
theorem IAt.at_ {w : World} {B : Nat} {A : Option Addr} {l : List Int} (h : IAt w B A l) {k : Nat} (hk : k < l.length) :
    ∃ g off, A = some ⟨g, off, none⟩ ∧ g < B ∧ w.cell? ⟨g, off + k, none⟩ = some (.int .i64 l[k]) := by
  obtain ⟨g, off, e, hb, hc⟩ := h (by intro e; subst e; simp at hk)
  exact ⟨g, off, e, hb, hc k l[k] (List.getElem?_eq_getElem hk)⟩
set_option maxRecDepth 100000 in
theorem IAt.drop {w : World} {B : Nat} {g off : Nat} {l : List Int} (h : IAt w B (some ⟨g, off, none⟩) l) (k : Nat) : IAt w B (some ⟨g, off + k, none⟩) (l.drop k) := by
  intro hn
  have hl : l ≠ [] := by rintro rfl; simp at hn
  obtain ⟨g', off', e, hb, hc⟩ := h hl
  simp only [Option.some.injEq, Addr.mk.injEq, and_true] at e
  obtain ⟨rfl, rfl⟩ := e
  refine ⟨g, off + k, rfl, hb, fun i a ha => ?_⟩
  rw [List.getElem?_drop] at ha
  have := hc (k + i) a ha
  rwa [← Nat.add_assoc] at this
set_option maxRecDepth 100000 in
theorem IAt.of_own {w : World} {base : Nat} {A : Option Addr} {cap : Nat} {l : List Int} {e : TypeId} (h : w.ownsRow base e 1 (.slice A l.length cap) l.length (encI l)) : IAt w w.heap.size A l := by
  intro hn
  rcases h.2 with ⟨hv, h0⟩ | ⟨g, cap', cur, hv, hb, hh, _, _, hs, ht⟩
  · exact absurd (List.eq_nil_of_length_eq_zero h0) hn
  · have hA : A = some ⟨g, 0, none⟩ := by injection hv
    subst hA
    refine ⟨g, 0, rfl, (Array.getElem?_eq_some_iff.1 hh).1, fun i a hp => ?_⟩
    have k1 := h.cells (g := g) rfl i (.int .i64 a) (by simp [encI, hp])
    have z : ∀ n, (⟨g, 0, none⟩ : Addr).add n = ⟨g, 0 + n, none⟩ := fun n => by unfold Addr.add; split <;> simp_all
    rw [z] at k1
    exact k1
set_option maxRecDepth 100000 in
theorem own_below {w w' : World} {base : Nat} {e : TypeId} {size : Nat} {v : Value} {n : Nat} {xs : List Value} (h : w.ownsRow base e size v n xs) (hb : Below w.heap.size w w') : w'.ownsRow base e size v n xs := by
  obtain ⟨h1, h2⟩ := h
  refine ⟨h1, ?_⟩
  rcases h2 with h2 | ⟨g, cap, cur, hv, hg, hh, r⟩
  · exact Or.inl h2
  · exact Or.inr ⟨g, cap, cur, hv, hg, by rw [hb.block g (Array.getElem?_eq_some_iff.1 hh).1]; exact hh, r⟩
set_option maxRecDepth 100000 in
theorem one_new (w : World) (t : TypeId) (x : Value) : ∀ (j : Nat) (u : Value), [x][j]? = some u → (w.alloc (.cells #[x] t)).cell? ((⟨w.heap.size, 0, none⟩ : Addr).add j) = some u :=
  World.news_of_block (cs := #[x]) (t := t) (fr := (0, 0)) (heap_alloc_new w _)
set_option maxRecDepth 100000 in
theorem app_int (w0 : World) {ops : Array Oper} {rest : List Oper} {o : Oper} {a : Act} {Q : Exit → Act → World → Prop} (hgd : o.guard = none) (s x : Operand)
    (ho : o.op = .call { callee := .builtin .append, args := #[s, x], argTypes := #[38, 38] }) (base : Nat) (hbase : base ≤ w0.heap.size) (l : List Int) (b : Int) (hlen : l.length ≤ 5000000000)
    (v : Value) (hs : a.eval s = v) (hown : w0.ownsRow base 3 1 v l.length (encI l)) (g : Nat) (hx : a.eval x = .slice (some ⟨g, 0, none⟩) 1 1) (hg : g = w0.heap.size)
    (h : ∀ v' w', w'.ownsRow base 3 1 v' (l ++ [b]).length (encI (l ++ [b])) → Below base w0 w' → wpList Tryz.prog ops Q rest (a.put o.dst v') w') :
    wpList Tryz.prog ops Q (o :: rest) a (w0.alloc (.cells #[.int .i64 b] 3)) := by
  subst hg
  obtain ⟨i0, hi0, hz0, hz1, hz2⟩ := info_parts intInfo
  refine wpList_append_own _ hgd s x 38 ho base 3 i0 _ 1 8 Tryz.underlying38 hi0 hz0 hz1 hz2 rfl (by decide) v l.length (encI l) hs (hown.alloc _) ⟨w0.heap.size, 0, none⟩ 1 1 [.int .i64 b] hx rfl (one_new _ _ _)
    (fun u hu => by simp at hu; subst hu; rfl) (by unfold maxLen; omega) (by omega) (by simp; omega) ?_
  intro v' w' hown' hgrow _
  refine h v' w' (by rw [encI_snoc]; simpa using hown') ?_
  exact ((Below.refl base w0).alloc hbase _).grown hgrow (by simp; omega) (fun j hj => (hown.lt _ hj).1)
end Go.Proofs.YthbdmlcbdibiiaaGreatDoor
/- For the seat: the reference's count of ones, walked. -/
namespace Go.Proofs.YthbdmlcbdibiiaaGreatDoor
open Go.Sx Go.RowKit Go.Sx.Ones
set_option maxRecDepth 100000 in
theorem popN_le : ∀ k n, popN k n ≤ k
  | 0, _ => Nat.le_refl _
  | k + 1, n => by have := popN_le k (n / 2); simp only [popN]; omega
set_option maxRecDepth 100000 in
theorem pop_half (m : Nat) (h : m < 9223372036854775808) : popN 64 m = m % 2 + popN 64 (m / 2) := by
  have e1 : popN 64 m = m % 2 + popN 63 (m / 2) := rfl
  have e2 : popN (63 + 1) (m / 2) = popN 63 (m / 2) + popN 1 (m / 2 / 2 ^ 63) := popN_add 63 1 (m / 2)
  have e3 : m / 2 / 2 ^ 63 = 0 := Nat.div_eq_of_lt (by omega)
  rw [e3, popN_zero] at e2
  rw [e1, show 64 = 63 + 1 from rfl, e2, Nat.add_zero]
def pop (n : Nat) : Nat := popN 64 n
set_option maxRecDepth 100000 in
theorem pop_zero : pop 0 = 0 := popN_zero 64
set_option maxRecDepth 100000 in
theorem pop_le (n : Nat) : pop n ≤ 64 := popN_le 64 n
set_option maxRecDepth 100000 in
theorem pop_step (m : Nat) (h : m < 9223372036854775808) : pop m = m % 2 + pop (m / 2) := pop_half m h
set_option maxRecDepth 100000 in
set_option maxHeartbeats 1000000 in
theorem count_any (n : Nat) (w : World) (hn : n < 9223372036854775808) : Calls Tryz.prog 59 #[.int .i64 n] w fun e w' => e = .returned (.int .i64 (pop n)) ∧ w' = w := by
  go_enter Tryz.func59, Tryz.ntmps59
  go_wp2
  go_loop [0, 3] (fun l c => ∃ m k : Nat, m < 9223372036854775808 ∧ l = .int .i64 m ∧ c = .int .i64 k ∧ k + pop m = pop n) (fun l _ => (intOf l).toNat)
  case atStart => exact ⟨n, 0, hn, rfl, rfl, by omega⟩
  case round =>
    obtain ⟨m, k, hm, rfl, rfl, hk⟩ := hrel
    have hp := pop_step m hm
    have hle := pop_le n
    have HK : Hid (k + pop m = pop n) := hk
    have HP : Hid (pop m = m % 2 + pop (m / 2)) := hp
    have hk64 : k ≤ 64 := by omega
    clear hk hp
    by_cases h0 : 0 < m
    · go_wp2
      go_round
      case rel => exact ⟨m / 2, k + m % 2, by omega, by go_num, by go_num, by have := HK.out; have := HP.out; omega⟩
      case measure => simp [intOf]; omega
    · have hz : m = 0 := by omega
      subst hz
      go_wp2
      go_ret
      have := HK.out
      rw [pop_zero] at this
      exact ⟨by rw [← this]; rfl, rfl⟩
end Go.Proofs.YthbdmlcbdibiiaaGreatDoor
/- For the seat: what the signs stand for; how many ones a number has. -/
namespace Go.Proofs.YthbdmlcbdibiiaaGreatDoor
open Go.Sx Go.ChangeShapes Go.WideShapes Go.RowKit Go.Joins Go.Deep Go.Sx.Ones
def F0 (g : Nat) (ss : List Sc) : Sc :=
  match Nat.beq g 900 with
  | true => .int (popI (ss.getD 0 (.int 0)).asInt)
  | false => .int 0
def F (g : Nat) (ss : List Sc) : Sc :=
  match Nat.beq g 901 with
  | true => Chk.chk.den (envOf F0 ss)
  | false => F0 g ss
set_option maxRecDepth 100000 in
theorem zero_has : kHas .i64 0 := by show -2 ^ 63 ≤ (0 : Int) ∧ (0 : Int) < 2 ^ 63; omega
set_option maxRecDepth 100000 in
theorem six_has : kHas .i64 6 := by show -2 ^ 63 ≤ (6 : Int) ∧ (6 : Int) < 2 ^ 63; omega
set_option maxRecDepth 100000 in
theorem F0_has (g : Nat) (ss : List Sc) : kHas .i64 (F0 g ss).asInt := by
  unfold F0
  split
  · exact popI_has _
  · exact zero_has
set_option maxRecDepth 100000 in
theorem chk_has (η : Env) : kHas .i64 (Chk.chk.den η).asInt := by
  unfold Chk.chk
  simp only [Tm.den]
  split
  · exact zero_has
  · exact six_has
set_option maxRecDepth 100000 in
theorem F_has (g : Nat) (ss : List Sc) : kHas .i64 (F g ss).asInt := by
  unfold F
  split
  · exact chk_has _
  · exact F0_has _ _
def sg : Sg := { defs := fun g => match Nat.beq g 901 with | true => some Chk.chk | false => none, ufs := [], pop := 900 }
set_option maxRecDepth 100000 in
theorem chk_signs : Chk.chk.signs (fun g => Nat.beq g 900) = true := by decide +kernel
set_option maxRecDepth 100000 in
theorem sg_ok {ρ : Env} (hF : ρ.f = F) : sg.Ok ρ := by
  refine ⟨?_, ?_, ?_⟩
  · intro g t h ss
    simp only [sg] at h
    split at h
    · rename_i hg
      have := Nat.eq_of_beq_eq_true hg
      subst this
      simp only [Option.some.injEq] at h; subst h
      rw [hF]
      show Chk.chk.den (envOf F0 ss) = _
      refine den_congr (P := fun g => Nat.beq g 900) rfl ?_ _ chk_signs
      intro g hg
      have := Nat.eq_of_beq_eq_true hg
      subst this
      rfl
    · cases h
  · intro g xs y hm; cases hm
  · intro s _
    rw [hF]
    rfl
noncomputable def onesTree : Tree Res := callT cx noS (run cx noS 400) 144 [.int .u64 (.var 0)] [] (.bit true)
set_option maxRecDepth 100000 in
theorem ones_run : leafInt .i64 onesTree = some onesE := by kernel_rfl
set_option maxRecDepth 100000 in
theorem ok0 : allN 64 (fun a => okAt a) = true := by kernel_rfl
set_option maxRecDepth 100000 in
theorem ok1 : allN 64 (fun a => okAt (64 + a)) = true := by kernel_rfl
set_option maxRecDepth 100000 in
theorem ok2 : allN 64 (fun a => okAt (128 + a)) = true := by kernel_rfl
set_option maxRecDepth 100000 in
theorem ok3 : allN 64 (fun a => okAt (192 + a)) = true := by kernel_rfl
set_option maxRecDepth 100000 in
theorem ones_pop (n : Nat) (h : n < 65536) : onesN n = popN 16 n := by
  have key : ∀ a, a < 256 → okAt a = true := by
    intro a ha
    by_cases h1 : a < 64
    · exact allN_get _ _ ok0 a h1
    by_cases h2 : a < 128
    · have := allN_get _ _ ok1 (a - 64) (by omega); rwa [show 64 + (a - 64) = a by omega] at this
    by_cases h3 : a < 192
    · have := allN_get _ _ ok2 (a - 128) (by omega); rwa [show 128 + (a - 128) = a by omega] at this
    · have := allN_get _ _ ok3 (a - 192) (by omega); rwa [show 192 + (a - 192) = a by omega] at this
  have h1 := allN_get _ _ (key (n / 256) (by omega)) (n % 256) (by omega)
  have h2 := Nat.eq_of_beq_eq_true h1
  have h3 : Nat.add (Nat.mul 256 (n / 256)) (n % 256) = n := Nat.div_add_mod n 256
  rw [h3] at h2
  exact h2
def onesPat : SVal := .cons (.int .u64 (.var 0)) .nil
def onesCond (ts : List Tm) : List Tm := [.op2 .le (ts.getD 0 (.num 0)) (.num 65535)]
def popR (t : Tm) : SVal := .int .i64 (.app 900 t)
def countPat : SVal := .cons (.int .i64 (.var 0)) .nil
def countCond (ts : List Tm) : List Tm := [.op2 .le (.num 0) (ts.getD 0 (.num 0))]
set_option maxRecDepth 100000 in
theorem ones_call {ρ : Env} (V : VarsOk ρ) (hF : ρ.f = F) : ∀ args h pc x, (pc.den ρ).asBool = true → (specC onesPat onesCond popR args h pc).get ρ = some x → CallOk ρ cx.globs cx.P 144 args h x := by
  refine specC_ok V globsC rfl (by intro u hu; simp [onesPat, SVal.toList] at hu; subst hu; rfl) (fun _ => rfl) ?_
  intro ts hl hp hc
  match ts, hl with
  | [t], _ =>
    have hp' : kHas .u64 (t.den ρ).asInt := hp.1
    have hp2 : 0 ≤ (t.den ρ).asInt ∧ (t.den ρ).asInt < 2 ^ 64 := hp'
    have hc' := hc (.op2 .le t (.num 65535)) (by simp [onesCond])
    have hc2 : (t.den ρ).asInt ≤ 65535 := of_decide_eq_true hc'
    obtain ⟨n, hn⟩ := Int.eq_ofNat_of_zero_le hp2.1
    have hn16 : n < 65536 := by omega
    obtain ⟨x, h1, h2⟩ := leafInt_get (envOf F0 [.int (n : Int)]) ones_run
    refine ⟨envOf F0 [.int (n : Int)], x, rfl, call_ok cxok (noS_ok _ _) (noS_body _) rfl h1, ?_, ?_⟩
    · intro ι
      simp only [onesPat, SVal.concL, SVal.conc, Tm.den, envOf, envA, envA, List.map_cons, List.map_nil, List.getD_cons_zero, Sc.asInt_int, hn]
    · intro u ι ι' hu
      rw [h2]
      have e := ones_den (ρ := envOf F0 [.int (n : Int)]) n hn16 rfl
      simp only [SVal.conc, popR, Tm.den, hu, hF]
      rw [e]
      have : F 900 [t.den ρ] = .int (popI (n : Int)) := by
        show Sc.int (popI (t.den ρ).asInt) = _
        rw [hn]
      simp only [List.map_cons, List.map_nil]
      rw [this, popI_small n hn16, ones_pop n hn16]
set_option maxRecDepth 100000 in
theorem count_call {ρ : Env} (V : VarsOk ρ) (hF : ρ.f = F) : ∀ args h pc x, (pc.den ρ).asBool = true → (specC countPat countCond popR args h pc).get ρ = some x → CallOk ρ cx.globs cx.P 59 args h x := by
  refine specC_ok V globsC rfl (by intro u hu; simp [countPat, SVal.toList] at hu; subst hu; rfl) (fun _ => rfl) ?_
  intro ts hl hp hc
  match ts, hl with
  | [t], _ =>
    have hp' : kHas .i64 (t.den ρ).asInt := hp.1
    have hp2 : -2 ^ 63 ≤ (t.den ρ).asInt ∧ (t.den ρ).asInt < 2 ^ 63 := hp'
    have hc' := hc (.op2 .le (.num 0) t) (by simp [countCond])
    have hc2 : 0 ≤ (t.den ρ).asInt := of_decide_eq_true hc'
    obtain ⟨n, hn⟩ := Int.eq_ofNat_of_zero_le hc2
    refine ⟨envOf F0 [.int (n : Int)], ⟨.int .i64 (.num (pop n : Int)), [], .bit true⟩, rfl, ?_, ?_, ?_⟩
    · refine callOk_of_same rfl ?_
      intro ι w
      exact count_any n w (by omega)
    · intro ι
      simp only [countPat, SVal.concL, SVal.conc, Tm.den, envOf, envA, envA, List.map_cons, List.map_nil, List.getD_cons_zero, Sc.asInt_int, hn]
    · intro u ι ι' hu
      simp only [SVal.conc, popR, Tm.den, hu, hF]
      have : F 900 [t.den ρ] = .int (popI (n : Int)) := by
        show Sc.int (popI (t.den ρ).asInt) = _
        rw [hn]
      simp only [List.map_cons, List.map_nil]
      rw [this]
      unfold popI
      rw [popB_nat]
      rfl
def popS : Specs := fun f => match f with
  | 144 => some (specC onesPat onesCond popR)
  | 59 => some (specC countPat countCond popR)
  | _ => none
set_option maxRecDepth 100000 in
theorem popS_ok {ρ : Env} (V : VarsOk ρ) (hF : ρ.f = F) : popS.Ok ρ cx := by
  intro f sp h
  unfold popS at h
  split at h
  · simp only [Option.some.injEq] at h; subst h; exact ones_call V hF
  · simp only [Option.some.injEq] at h; subst h; exact count_call V hF
  · cases h
set_option maxRecDepth 100000 in
theorem popS_body : ∀ f, popS f ≠ none → ∃ fn c, cx.P.funcs[f]? = some fn ∧ fn.body = some c := by
  intro f h
  unfold popS at h
  split at h
  · exact ⟨Tryz.f144, _, Tryz.func144, rfl⟩
  · exact ⟨Tryz.f59, _, Tryz.func59, rfl⟩
  · exact (h rfl).elim
end Go.Proofs.YthbdmlcbdibiiaaGreatDoor
/- For the seat: 'Check' of both packages: the cases of the input. -/
namespace Go.Proofs.YthbdmlcbdibiiaaGreatDoor
open Go.Sx
def argT (o c n i : Tm) : SVal :=
  .agg (.cons (.int .i64 o) (.cons (.int .i64 c) (.cons (.int .i64 (.var 2)) (.cons (.int .i64 n) (.cons (.int .i64 (.var 4)) (.cons (.int .i64 i) (.cons (.int .i64 (.var 6)) (.cons (.int .i64 (.var 7)) (.cons (.bool (.var 8)) .nil)))))))))
def argL (o c n i : Tm) : Tm :=
  .cons o (.cons c (.cons (.var 2) (.cons n (.cons (.var 4) (.cons i (.cons (.var 6) (.cons (.var 7) (.cons (.var 8) .nil))))))))
def kn0 : Kn := ⟨[], [], [], [], [0, 1, 2, 3, 4, 5, 6, 7]⟩
namespace chk
def v (i : Nat) : Tm := .var i
def lt (a : Tm) (k : Int) : Tm := .op2 .lt a (.num k)
def gt (a : Tm) (k : Int) : Tm := .op2 .lt (.num k) a
def no (a : Tm) : Tm := .op1 .not a
noncomputable def at' (f : Nat) (o c n i : Tm) (l : List Tm) (e : Kn) : Bool := pxInt sg .i64 (.app 901 (argL o c n i)) (callT cx popS (run cx popS 400) f [argT o c n i] [] (l.foldr mkAnd (.bit true))) e
noncomputable def goes (f k : Nat) : Bool := at' f (.num (Int.ofNat k)) (v 1) (v 3) (v 5) [] kn0
noncomputable def its (f c : Nat) : Bool := (List.range' 1 15).all fun m => at' f (.num 42) (.num (Int.ofNat c)) (v 3) (.num (Int.ofNat m)) [] kn0
noncomputable def low (f : Nat) : Bool := at' f (v 0) (v 1) (v 3) (v 5) [lt (v 0) 1] (kn0.tell (.le 0 0) true)
noncomputable def high (f : Nat) : Bool := at' f (v 0) (v 1) (v 3) (v 5) [no (lt (v 0) 1), gt (v 0) 45] (kn0.tell (.le 0 45) false)
noncomputable def itA (f : Nat) : Bool := at' f (.num 42) (v 1) (v 3) (v 5) [lt (v 1) 0] (kn0.tell (.le 1 (-1)) true)
noncomputable def itB (f : Nat) : Bool := at' f (.num 42) (v 1) (v 3) (v 5) [no (lt (v 1) 0), gt (v 1) 14] (kn0.tell (.le 1 14) false)
noncomputable def itC (f : Nat) : Bool := at' f (.num 42) (v 1) (v 3) (v 5) [no (lt (v 1) 0), no (gt (v 1) 14), lt (v 5) 1] (kn0.tell (.le 5 0) true)
noncomputable def itD (f : Nat) : Bool := at' f (.num 42) (v 1) (v 3) (v 5) [no (lt (v 1) 0), no (gt (v 1) 14), no (lt (v 5) 1), gt (v 5) 15] (kn0.tell (.le 5 15) false)
end chk
end Go.Proofs.YthbdmlcbdibiiaaGreatDoor
/- Whole numbers as floats of 64 bits, plainly: sums and comparisons of small ones are exact. -/
namespace Go.Fl
open Ieee
set_option maxRecDepth 100000 in
theorem log2_scale (m k : Nat) (h : m ≠ 0) : (m * 2 ^ k).log2 = m.log2 + k := by
  have h2 : m * 2 ^ k ≠ 0 := Nat.mul_ne_zero h (Nat.ne_of_gt (Nat.two_pow_pos k))
  have a := Nat.log2_self_le h
  have b := Nat.lt_log2_self (n := m)
  apply Nat.le_antisymm
  · have : (m * 2 ^ k).log2 < m.log2 + k + 1 := by
      rw [Nat.log2_lt h2]
      calc m * 2 ^ k < 2 ^ (m.log2 + 1) * 2 ^ k := Nat.mul_lt_mul_of_pos_right b (Nat.two_pow_pos k)
        _ = 2 ^ (m.log2 + k + 1) := by rw [← Nat.pow_add]; congr 1; omega
    omega
  · rw [Nat.le_log2 h2]
    calc 2 ^ (m.log2 + k) = 2 ^ m.log2 * 2 ^ k := Nat.pow_add 2 _ _
      _ ≤ m * 2 ^ k := Nat.mul_le_mul_right _ a
set_option maxRecDepth 100000 in
theorem cut_exact (neg : Bool) (q d : Nat) (hq : q ≠ 0) : Toward.even.cut neg (q * 2 ^ d) d = q := by
  have hmin : min d ((q * 2 ^ d).log2 + 2) = d := by rw [log2_scale q d hq]; omega
  unfold Toward.cut
  simp only [hmin, Nat.one_shiftLeft]
  have hp : 0 < 2 ^ d := Nat.two_pow_pos d
  rw [Nat.mul_div_cancel _ hp, Nat.mul_mod_left]
  have h2 : (2 ^ d == 2 * 0) = false := by simp
  simp [h2]
def F (neg : Bool) (m : Nat) : Nat := if m = 0 then double.word neg 0 else double.word neg (((m.log2 : Int) - 52 - double.leastPlace).toNat * double.binade + m * 2 ^ (52 - m.log2))
set_option maxRecDepth 100000 in
theorem log2_le (m : Nat) (hm : m ≠ 0) (h : m < 2 ^ 53) : m.log2 ≤ 52 := by
  have := (Nat.log2_lt hm).2 h
  omega
set_option maxRecDepth 100000 in
theorem least : double.leastPlace = -1074 := by decide
set_option maxRecDepth 100000 in
theorem bin : double.binade = 2 ^ 52 := by decide
set_option maxRecDepth 100000 in
theorem inf : double.infRung = 2047 * 2 ^ 52 := by decide
set_option maxRecDepth 100000 in
theorem sgn : double.signWeight = 2 ^ 63 := by decide
set_option maxRecDepth 100000 in
theorem kept_bound (m : Nat) (hm : m ≠ 0) (h : m < 2 ^ 53) : 2 ^ 52 ≤ m * 2 ^ (52 - m.log2) ∧ m * 2 ^ (52 - m.log2) < 2 ^ 53 := by
  have hl := log2_le m hm h
  have a := Nat.log2_self_le hm
  have b := Nat.lt_log2_self (n := m)
  constructor
  · calc 2 ^ 52 = 2 ^ m.log2 * 2 ^ (52 - m.log2) := by rw [← Nat.pow_add]; congr 1; omega
      _ ≤ _ := Nat.mul_le_mul_right _ a
  · calc m * 2 ^ (52 - m.log2) < 2 ^ (m.log2 + 1) * 2 ^ (52 - m.log2) := Nat.mul_lt_mul_of_pos_right b (Nat.two_pow_pos _)
      _ = 2 ^ 53 := by rw [← Nat.pow_add]; congr 1; omega
set_option maxRecDepth 100000 in
theorem nearest_scaled (neg : Bool) (m k : Nat) (h : m < 2 ^ 53) : double.nearest neg (m * 2 ^ k) (-(k : Int)) = F neg m := by
  unfold Format.nearest F
  by_cases hm : m = 0
  · subst hm; simp
  have hmk : m * 2 ^ k ≠ 0 := Nat.mul_ne_zero hm (Nat.ne_of_gt (Nat.two_pow_pos k))
  have hl := log2_le m hm h
  rw [if_neg hmk, if_neg hm]
  have e1 : (double.fractionBits : Int) = 52 := rfl
  simp only [log2_scale m k hm, e1, least]
  have last : max (-(k : Int) + ((m.log2 + k : Nat) : Int) - 52) (-1074) = (m.log2 : Int) - 52 := by omega
  rw [last]
  have kept : Toward.even.cut neg ((m * 2 ^ k) <<< (-(k : Int) - ((m.log2 : Int) - 52)).toNat) ((m.log2 : Int) - 52 - -(k : Int)).toNat = m * 2 ^ (52 - m.log2) := by
    have hq : m * 2 ^ (52 - m.log2) ≠ 0 := Nat.mul_ne_zero hm (Nat.ne_of_gt (Nat.two_pow_pos _))
    rw [Nat.shiftLeft_eq]
    by_cases hc : k ≤ 52 - m.log2
    · have e2 : (-(k : Int) - ((m.log2 : Int) - 52)).toNat = 52 - m.log2 - k := by omega
      have e3 : ((m.log2 : Int) - 52 - -(k : Int)).toNat = 0 := by omega
      rw [e2, e3]
      have e4 : m * 2 ^ k * 2 ^ (52 - m.log2 - k) = m * 2 ^ (52 - m.log2) * 2 ^ 0 := by
        rw [Nat.mul_assoc, ← Nat.pow_add, Nat.pow_zero, Nat.mul_one]; congr 2; omega
      rw [e4]
      exact cut_exact neg _ 0 hq
    · have e2 : (-(k : Int) - ((m.log2 : Int) - 52)).toNat = 0 := by omega
      have e3 : ((m.log2 : Int) - 52 - -(k : Int)).toNat = k - (52 - m.log2) := by omega
      rw [e2, e3]
      have e4 : m * 2 ^ k * 2 ^ 0 = m * 2 ^ (52 - m.log2) * 2 ^ (k - (52 - m.log2)) := by
        rw [Nat.pow_zero, Nat.mul_one, Nat.mul_assoc, ← Nat.pow_add]; congr 2; omega
      rw [e4]
      exact cut_exact neg _ _ hq
  rw [kept]
  have hb := kept_bound m hm h
  congr 1
  rw [Nat.min_eq_left]
  rw [bin, inf]
  have : ((m.log2 : Int) - 52 - -1074).toNat = m.log2 + 1022 := by omega
  rw [this]
  omega
set_option maxRecDepth 100000 in
theorem word_read (neg : Bool) (r : Nat) (h : r < 2 ^ 63) : double.word neg r / double.signWeight % 2 = neg.toNat ∧ double.word neg r % double.signWeight = r := by
  unfold Format.word
  rw [sgn]
  cases neg
  · simp; omega
  · simp; omega
set_option maxRecDepth 100000 in
theorem read_F (neg : Bool) (m : Nat) (h : m < 2 ^ 53) : ∃ k : Nat, k ≤ 1074 ∧ double.read (F neg m) = .number neg (m * 2 ^ k) (-(k : Int)) := by
  by_cases hm : m = 0
  · subst hm
    obtain ⟨k, hk⟩ : ∃ k : Nat, k = 1074 := ⟨_, rfl⟩
    refine ⟨k, by omega, ?_⟩
    have hk2 : (-1074 : Int) = -(k : Int) := by omega
    clear hk
    have e : F neg 0 = double.word neg 0 := rfl
    have hw := word_read neg 0 (by omega)
    rw [e]
    unfold Format.read
    rw [hw.1, hw.2, bin, least, Nat.zero_mul, hk2, if_pos (Nat.two_pow_pos 52)]
    cases neg <;> rfl
  · have hl := log2_le m hm h
    have hb := kept_bound m hm h
    have e : F neg m = double.word neg ((m.log2 + 1022) * 2 ^ 52 + m * 2 ^ (52 - m.log2)) := by
      have e0 : ((m.log2 : Int) - 52 - -1074).toNat = m.log2 + 1022 := by omega
      unfold F
      rw [if_neg hm, bin, least, e0]
    refine ⟨52 - m.log2, by omega, ?_⟩
    rw [e]
    generalize hq : m * 2 ^ (52 - m.log2) = q at *
    have hw := word_read neg ((m.log2 + 1022) * 2 ^ 52 + q) (by omega)
    unfold Format.read
    rw [hw.1, hw.2, bin, inf, least]
    have p52 : (2 : Nat) ^ 52 = 4503599627370496 := by decide
    have p53 : (2 : Nat) ^ 53 = 9007199254740992 := by decide
    rw [p52, p53] at hb
    rw [p52]
    have h1 : ¬ ((m.log2 + 1022) * 4503599627370496 + q < 4503599627370496) := by omega
    have h2 : (m.log2 + 1022) * 4503599627370496 + q < 2047 * 4503599627370496 := by omega
    have h3 : ((m.log2 + 1022) * 4503599627370496 + q) % 4503599627370496 = q - 4503599627370496 := by omega
    have h4 : ((m.log2 + 1022) * 4503599627370496 + q) / 4503599627370496 = m.log2 + 1023 := by omega
    rw [if_neg h1, if_pos h2, h3, h4]
    have h5 : 4503599627370496 + (q - 4503599627370496) = q := by omega
    have h6 : (-1074 : Int) + ((m.log2 + 1023 - 1 : Nat) : Int) = -((52 - m.log2 : Nat) : Int) := by omega
    rw [h5, h6]
    cases neg <;> rfl
def W (n : Int) : Nat := F (decide (n < 0)) n.natAbs
set_option maxRecDepth 100000 in
theorem ofInt_W (n : Int) (h : n.natAbs < 2 ^ 53) : double.write (.number (decide (n < 0)) n.natAbs 0) = W n := by
  have := nearest_scaled (decide (n < 0)) n.natAbs 0 h
  simpa [Format.write, W] using this
set_option maxRecDepth 100000 in
theorem signed_of (n : Int) (k : Nat) (u : Nat) : signed (decide (n < 0)) (n.natAbs * 2 ^ k) u = n * 2 ^ (k + u) := by
  unfold signed
  rw [Nat.shiftLeft_eq, Nat.mul_assoc, ← Nat.pow_add]
  by_cases h : n < 0
  · rw [if_pos (by simpa using h)]
    have e : ((n.natAbs : Nat) : Int) = -n := by omega
    push_cast
    rw [e, Int.neg_mul]
    simp
  · rw [if_neg (by simpa using h)]
    have e : ((n.natAbs : Nat) : Int) = n := by omega
    push_cast
    rw [e]
set_option maxRecDepth 100000 in
theorem two_pos (k : Nat) : (0 : Int) < 2 ^ k := Int.pow_pos (by omega)
set_option maxRecDepth 100000 in
theorem add_W (a b : Int) (ha : a.natAbs < 2 ^ 53) (hb : b.natAbs < 2 ^ 53) (hab : (a + b).natAbs < 2 ^ 53) : double.add (W a) (W b) = some (W (a + b)) := by
  obtain ⟨k, hk, ra⟩ := read_F (decide (a < 0)) a.natAbs ha
  obtain ⟨j, hj, rb⟩ := read_F (decide (b < 0)) b.natAbs hb
  unfold Format.add
  rw [show double.read (W a) = _ from ra, show double.read (W b) = _ from rb]
  simp only [Datum.sum, Option.map_some]
  congr 1
  have hbase : ∃ m : Nat, m ≤ 1074 ∧ min (-(k : Int)) (-(j : Int)) = -(m : Int) ∧ k ≤ m ∧ j ≤ m := ⟨max k j, by omega, by omega, by omega, by omega⟩
  obtain ⟨m, hm, hmin, hkm, hjm⟩ := hbase
  rw [hmin]
  have e1 : (-(k : Int) - -(m : Int)).toNat = m - k := by omega
  have e2 : (-(j : Int) - -(m : Int)).toNat = m - j := by omega
  rw [e1, e2, signed_of, signed_of]
  have e3 : k + (m - k) = m := by omega
  have e4 : j + (m - j) = m := by omega
  rw [e3, e4, ← Int.add_mul]
  have e5 : ((a + b) * 2 ^ m).natAbs = (a + b).natAbs * 2 ^ m := by rw [Int.natAbs_mul, Int.natAbs_pow]; rfl
  have hp := two_pos m
  have hz : (a + b) * 2 ^ m = 0 ↔ a + b = 0 := by
    constructor
    · intro h
      rcases Int.mul_eq_zero.1 h with h | h
      · exact h
      · omega
    · intro h; rw [h]; simp
  have hs : (if (a + b) * 2 ^ m = 0 then decide (a < 0) && decide (b < 0) else decide ((a + b) * 2 ^ m < 0)) = decide (a + b < 0) := by
    by_cases h0 : a + b = 0
    · rw [if_pos (hz.2 h0)]
      by_cases x : a < 0
      · have y : ¬ b < 0 := by omega
        simp [x, y, h0]
      · simp [x, h0]
    · rw [if_neg (fun h => h0 (hz.1 h))]
      by_cases hneg : a + b < 0
      · have : (a + b) * 2 ^ m < 0 := Int.mul_neg_of_neg_of_pos hneg hp
        simp [this, hneg]
      · have : 0 ≤ (a + b) * 2 ^ m := Int.mul_nonneg (by omega) (by omega)
        simp [hneg]
        omega
  show Format.write double (.number _ _ _) = _
  rw [hs, e5]
  exact nearest_scaled _ _ _ hab
set_option maxRecDepth 100000 in
theorem order_W (a b : Int) (ha : a.natAbs < 2 ^ 53) (hb : b.natAbs < 2 ^ 53) : double.order (W a) (W b) = some (compare a b) := by
  obtain ⟨k, hk, ra⟩ := read_F (decide (a < 0)) a.natAbs ha
  obtain ⟨j, hj, rb⟩ := read_F (decide (b < 0)) b.natAbs hb
  unfold Format.order
  rw [show double.read (W a) = _ from ra, show double.read (W b) = _ from rb]
  simp only [Datum.order]
  congr 1
  obtain ⟨m, hmin, hkm, hjm⟩ : ∃ m : Nat, min (-(k : Int)) (-(j : Int)) = -(m : Int) ∧ k ≤ m ∧ j ≤ m := ⟨max k j, by omega, by omega, by omega⟩
  rw [hmin]
  have e1 : (-(k : Int) - -(m : Int)).toNat = m - k := by omega
  have e2 : (-(j : Int) - -(m : Int)).toNat = m - j := by omega
  rw [e1, e2, signed_of, signed_of]
  have e3 : k + (m - k) = m := by omega
  have e4 : j + (m - j) = m := by omega
  rw [e3, e4]
  have hp := two_pos m
  have hlt : a * 2 ^ m < b * 2 ^ m ↔ a < b := Int.mul_lt_mul_right hp
  have heq : a * 2 ^ m = b * 2 ^ m ↔ a = b := by
    constructor
    · intro h; exact Int.eq_of_mul_eq_mul_right (by omega) h
    · intro h; rw [h]
  simp only [compare, compareOfLessAndEq, hlt, heq]
end Go.Fl
/- alu.Add: the sum, its carry, whether it is beyond: by exact floats. -/
namespace Go.Proofs.YthbdmlcbdibiiaaGreatDoor
open Go.RowKit Go.Fl
def s32 (a : Int) : Int := if a < 2147483648 then a else a - 4294967296
set_option maxRecDepth 100000 in
theorem nearest_W (n : Int) (h : n.natAbs < 2 ^ 53) : FloatKind.nearest .f64 n = W n := ofInt_W n h
def addR (a b : Int) (c : Bool) : Int := (a + b + (if c then 1 else 0)) % 4294967296
def addC (a b : Int) (c : Bool) : Bool := decide (4294967296 ≤ a + b + (if c then 1 else 0))
def addV (a b : Int) (c : Bool) : Bool := s32 a + s32 b + (if c then 1 else 0) != s32 (addR a b c)
set_option maxRecDepth 100000 in
theorem wrap_s32 (a : Int) (a0 : 0 ≤ a) (a1 : a < 4294967296) : IntKind.i32.wrap a = s32 a := by
  have e : IntKind.i32.wrap a = if 2147483648 ≤ a % 4294967296 then a % 4294967296 - 4294967296 else a % 4294967296 := by
    simp [IntKind.wrap, IntKind.signed, IntKind.bits]
  rw [e]
  unfold s32
  split <;> split <;> omega
set_option maxRecDepth 100000 in
theorem s32_small (a : Int) (a0 : 0 ≤ a) (a1 : a < 4294967296) : -2147483648 ≤ s32 a ∧ s32 a < 2147483648 := by
  unfold s32
  split <;> omega
set_option maxRecDepth 100000 in
theorem one_W : (4607182418800017408 : Nat) = W 1 := by decide
set_option maxRecDepth 100000 in
theorem big_W : (4751297606875873280 : Nat) = W 4294967296 := by decide
set_option maxRecDepth 100000 in
theorem small (n : Int) (h : -100000000000 < n ∧ n < 100000000000) : n.natAbs < 2 ^ 53 := by
  have : (2 : Nat) ^ 53 = 9007199254740992 := by decide
  omega
set_option maxRecDepth 100000 in
theorem run_add {P : Program} (t : TypeId) (x y : Int) (h1 : -10000000000 < x ∧ x < 10000000000) (h2 : -10000000000 < y ∧ y < 10000000000) (w : World) :
    (binOp .add t (.float .f64 (W x)) (.float .f64 (W y))).run P w = .ok (.float .f64 (W (x + y))) w :=
  run_float_arith w .add t .f64 _ _ _ (add_W x y (small _ (by omega)) (small _ (by omega)) (small _ (by omega)))
set_option maxRecDepth 100000 in
theorem run_cadd {P : Program} (t : TypeId) (x y : Int) (h1 : -10000000000 < x ∧ x < 10000000000) (h2 : -10000000000 < y ∧ y < 10000000000) (w : World) :
    (binOp .add t (.complex .f64 (W x) (W y)) (.complex .f64 4607182418800017408 4607182418800017408)).run P w = .ok (.complex .f64 (W (x + 1)) (W (y + 1))) w := by
  refine run_complex_sum w .add (.inl rfl) t .f64 _ _ _ _ _ _ ?_
  have k1 : floatBits .add .f64 (W x) 4607182418800017408 = some (W (x + 1)) := by rw [one_W]; exact add_W x 1 (small _ (by omega)) (small _ (by omega)) (small _ (by omega))
  have k2 : floatBits .add .f64 (W y) 4607182418800017408 = some (W (y + 1)) := by rw [one_W]; exact add_W y 1 (small _ (by omega)) (small _ (by omega)) (small _ (by omega))
  simp [cSumBits, k1, k2]
set_option maxRecDepth 100000 in
theorem ge_W (x : Int) (h1 : -10000000000 < x ∧ x < 10000000000) : (FloatKind.f64.format.order (W x) 4751297606875873280 == some .gt || FloatKind.f64.format.order (W x) 4751297606875873280 == some .eq) = decide (4294967296 ≤ x) := by
  have e : FloatKind.f64.format.order (W x) 4751297606875873280 = some (compare x 4294967296) := by rw [big_W]; exact order_W x 4294967296 (small _ (by omega)) (small _ (by omega))
  rw [e]
  simp only [compare, compareOfLessAndEq]
  by_cases h : x < 4294967296
  · have h2 : ¬ (4294967296 ≤ x) := by omega
    simp [h, h2]
  · by_cases h3 : x = 4294967296
    · subst h3; simp
    · have h2 : 4294967296 ≤ x := by omega
      simp [h, h3, h2]
set_option maxRecDepth 100000 in
theorem ne_W (x y : Int) (h1 : -10000000000 < x ∧ x < 10000000000) (h2 : -10000000000 < y ∧ y < 10000000000) : (FloatKind.f64.format.order (W x) (W y) != some .eq) = (x != y) := by
  have e : FloatKind.f64.format.order (W x) (W y) = some (compare x y) := order_W x y (small _ (by omega)) (small _ (by omega))
  rw [e]
  simp only [compare, compareOfLessAndEq]
  by_cases h : x < y
  · have h3 : (x != y) = true := by simp; omega
    rw [h3, if_pos h]
    rfl
  · by_cases h3 : x = y
    · subst h3; simp
    · have h4 : (x != y) = true := by simpa using h3
      rw [h4, if_neg h, if_neg h3]
      rfl
set_option maxRecDepth 100000 in
theorem fl_W (n : Int) (h : -10000000000 < n ∧ n < 10000000000) : floatOfInt .f64 n = W n := nearest_W n (small _ (by omega))
set_option maxRecDepth 100000 in
set_option maxHeartbeats 2000000 in
theorem aluAdd_any (a b : Int) (c : Bool) (w : World) (a0 : 0 ≤ a) (a1 : a < 4294967296) (b0 : 0 ≤ b) (b1 : b < 4294967296) :
    Calls Tryz.prog 147 #[.int .u32 a, .int .u32 b, .bool c] w fun e w' => e = .returned (.tuple #[.int .u32 (addR a b c), .bool (addC a b c), .bool (addV a b c)]) ∧ w = w' := by
  have sa := s32_small a a0 a1
  have sb := s32_small b b0 b1
  have wa := wrap_s32 a a0 a1
  have wb := wrap_s32 b b0 b1
  have fa := fl_W a (by omega)
  have fb := fl_W b (by omega)
  have fsa := fl_W (s32 a) (by omega)
  have fsb := fl_W (s32 b) (by omega)
  have p1 := fun w => run_add (P := Tryz.prog) 171 a b (by omega) (by omega) w
  have p2 := fun w => run_add (P := Tryz.prog) 171 (s32 a) (s32 b) (by omega) (by omega) w
  cases c
  · have hr : 0 ≤ (a + b) % 4294967296 ∧ (a + b) % 4294967296 < 4294967296 := by omega
    have sr := s32_small _ hr.1 hr.2
    have wr := wrap_s32 _ hr.1 hr.2
    have fr := fl_W (s32 ((a + b) % 4294967296)) (by omega)
    have g1 := ge_W (a + b) (by omega)
    have g2 := ne_W (s32 a + s32 b) (s32 ((a + b) % 4294967296)) (by omega) (by omega)
    have e1 : addR a b false = (a + b) % 4294967296 := by simp [addR]
    have e2 : addC a b false = decide (4294967296 ≤ a + b) := by simp [addC]
    have e3 : addV a b false = (s32 a + s32 b != s32 ((a + b) % 4294967296)) := by simp [addV, addR]
    rw [e1, e2, e3]
    clear e1 e2 e3
    generalize s32 ((a + b) % 4294967296) = tr at *
    generalize s32 a = ta at *
    generalize s32 b = tb at *
    go_enter Tryz.func147, Tryz.ntmps147
    go_wp2
    go_ret3
    exact ⟨rfl, rfl⟩
  · have hr : 0 ≤ ((a + b) % 4294967296 + 1) % 4294967296 ∧ ((a + b) % 4294967296 + 1) % 4294967296 < 4294967296 := by omega
    have sr := s32_small _ hr.1 hr.2
    have wr := wrap_s32 _ hr.1 hr.2
    have fr := fl_W (s32 (((a + b) % 4294967296 + 1) % 4294967296)) (by omega)
    have wr2 : wrap32 ((a + b + 1) % 4294967296) = s32 (((a + b) % 4294967296 + 1) % 4294967296) := by
      have e : (a + b + 1) % 4294967296 = ((a + b) % 4294967296 + 1) % 4294967296 := by omega
      rw [e]
      unfold wrap32 s32
      split <;> omega
    have p3 := fun w => run_cadd (P := Tryz.prog) 170 (a + b) (s32 a + s32 b) (by omega) (by omega) w
    have g1 := ge_W (a + b + 1) (by omega)
    have g2 := ne_W (s32 a + s32 b + 1) (s32 (((a + b) % 4294967296 + 1) % 4294967296)) (by omega) (by omega)
    have e1 : addR a b true = ((a + b) % 4294967296 + 1) % 4294967296 := by simp only [addR, if_true]; omega
    have e2 : addC a b true = decide (4294967296 ≤ a + b + 1) := by simp [addC]
    have e3 : addV a b true = (s32 a + s32 b + 1 != s32 (((a + b) % 4294967296 + 1) % 4294967296)) := by simp only [addV, e1, if_true]
    rw [e1, e2, e3]
    clear e1 e2 e3
    generalize s32 (((a + b) % 4294967296 + 1) % 4294967296) = tr at *
    generalize s32 a = ta at *
    generalize s32 b = tb at *
    go_enter Tryz.func147, Tryz.ntmps147
    go_wp2
    go_ret3
    exact ⟨rfl, rfl⟩
end Go.Proofs.YthbdmlcbdibiiaaGreatDoor
/- Sums and quotients of both packages. -/
namespace Go.Proofs.YthbdmlcbdibiiaaGreatDoor
open Go.RowKit Go.Fl
def quoL (a b : Int) (s : Bool) : Int := (if b = 0 then 0 else if s then (s32 a).tdiv (s32 b) else a / b) % 4294967296
set_option maxRecDepth 100000 in
theorem addC_eq (a b : Int) (c : Bool) : addC a b c = decide (4294967295 < a + b + (if c then 1 else 0)) := by
  unfold addC
  exact decide_eq_decide.2 ⟨fun h => by omega, fun h => by omega⟩
set_option maxRecDepth 100000 in
theorem addV_eq {a b : Int} (c : Bool) (a0 : 0 ≤ a) (a1 : a < 4294967296) (b0 : 0 ≤ b) (b1 : b < 4294967296) : addV a b c = ((a / 2147483648 == b / 2147483648) && (addR a b c / 2147483648 != a / 2147483648)) := by
  unfold addV addR s32
  rw [Bool.eq_iff_iff]
  cases c <;> simp <;> split <;> split <;> split <;> omega
set_option maxRecDepth 100000 in
set_option maxHeartbeats 1000000 in
theorem radd_any (a b : Int) (c : Bool) (w : World) (a0 : 0 ≤ a) (a1 : a < 4294967296) (b0 : 0 ≤ b) (b1 : b < 4294967296) :
    Calls Tryz.prog 163 #[.int .u32 a, .int .u32 b, .bool c] w fun e w' => e = .returned (.tuple #[.int .u32 (addR a b c), .bool (addC a b c), .bool (addV a b c)]) ∧ w = w' := by
  have hV := addV_eq c a0 a1 b0 b1
  have hC := addC_eq a b c
  have hR : addR a b c = (a + b + (if c then 1 else 0)) % 4294967296 := rfl
  rw [hR] at hV
  rw [hV, hC, hR]
  clear hV hC hR
  by_cases ht : a / 2147483648 = b / 2147483648
  · have e : (a / 2147483648 == b / 2147483648) = true := by simpa using ht
    rw [e, Bool.true_and]
    clear ht
    cases c
    · simp only [Bool.false_eq_true, if_false, Int.add_zero]
      go_enter Tryz.func163, Tryz.ntmps163
      go_wp2
      go_ret3
      exact ⟨rfl, rfl⟩
    · simp only [if_true]
      go_enter Tryz.func163, Tryz.ntmps163
      go_wp2
      go_ret3
      exact ⟨rfl, rfl⟩
  · have e : (a / 2147483648 == b / 2147483648) = false := by simpa using ht
    rw [e, Bool.false_and]
    clear ht
    cases c
    · simp only [Bool.false_eq_true, if_false, Int.add_zero]
      go_enter Tryz.func163, Tryz.ntmps163
      go_wp2
      go_ret3
      exact ⟨rfl, rfl⟩
    · simp only [if_true]
      go_enter Tryz.func163, Tryz.ntmps163
      go_wp2
      go_ret3
      exact ⟨rfl, rfl⟩
set_option maxRecDepth 100000 in
theorem tdiv_bound {x y : Int} (h1 : -2147483648 ≤ x) (h2 : x < 2147483648) : -2147483648 ≤ x.tdiv y ∧ x.tdiv y ≤ 2147483648 := by
  have h := Int.natAbs_tdiv x y
  have h3 : (x.tdiv y).natAbs ≤ x.natAbs := by rw [h]; exact Nat.div_le_self _ _
  omega
set_option maxRecDepth 100000 in
theorem rdiv_any (a b : Int) (s : Bool) (w : World) (a0 : 0 ≤ a) (a1 : a < 4294967296) (b0 : 0 ≤ b) (b1 : b < 4294967296) :
    Calls Tryz.prog 45 #[.int .u32 a, .int .u32 b, .bool s] w fun e w' => e = .returned (.int .u32 (quoL a b s)) ∧ w = w' := by
  by_cases hb : b = 0
  · subst hb
    go_enter Tryz.func45, Tryz.ntmps45
    go_wp2
    go_ret
    exact ⟨rfl, rfl⟩
  · have e : (b == 0) = false := by simpa using hb
    cases s
    · have d0 := Int.ediv_nonneg a0 b0
      have d1 := Int.ediv_le_self b a0
      have q : quoL a b false = a / b := by unfold quoL; rw [if_neg hb, if_neg (by decide)]; omega
      have d2 : a.tdiv b = a / b := Int.tdiv_eq_ediv_of_nonneg a0
      rw [q]
      go_enter Tryz.func45, Tryz.ntmps45
      go_wp2
      go_ret
      exact ⟨rfl, rfl⟩
    · have q : quoL a b true = (s32 a).tdiv (s32 b) % 4294967296 := by unfold quoL; rw [if_neg hb]; rfl
      have sa := s32_small a a0 a1
      have sb := s32_small b b0 b1
      have wa : wrap32 a = s32 a := (IntWalk.i32_left a).symm.trans (wrap_s32 a a0 a1)
      have wb : wrap32 b = s32 b := (IntWalk.i32_left b).symm.trans (wrap_s32 b b0 b1)
      have nb : s32 b ≠ 0 := by unfold s32; split <;> omega
      have tb := tdiv_bound (y := s32 b) sa.1 sa.2
      rw [q]
      clear q
      generalize s32 a = x at *
      generalize s32 b = y at *
      generalize hz : x.tdiv y = z at *
      have e2 : (y == 0) = false := by simpa using nb
      go_enter Tryz.func45, Tryz.ntmps45
      go_wp2
      go_ret
      exact ⟨rfl, rfl⟩
set_option maxRecDepth 100000 in
theorem pdiv_any (a b : Int) (s : Bool) (w : World) (a0 : 0 ≤ a) (a1 : a < 4294967296) (b0 : 0 ≤ b) (b1 : b < 4294967296) :
    Calls Tryz.prog 72 #[.int .u32 a, .int .u32 b, .bool s] w fun e w' => e = .returned (.int .u32 (quoL a b s)) ∧ w = w' := by
  by_cases hb : b = 0
  · subst hb
    go_enter Tryz.func72, Tryz.ntmps72
    go_wp2
    go_ret
    exact ⟨rfl, rfl⟩
  · have e : (b == 0) = false := by simpa using hb
    cases s
    · have d0 := Int.ediv_nonneg a0 b0
      have d1 := Int.ediv_le_self b a0
      have q : quoL a b false = a / b := by unfold quoL; rw [if_neg hb, if_neg (by decide)]; omega
      have d2 : a.tdiv b = a / b := Int.tdiv_eq_ediv_of_nonneg a0
      rw [q]
      go_enter Tryz.func72, Tryz.ntmps72
      go_wp2
      go_ret
      exact ⟨rfl, rfl⟩
    · have q : quoL a b true = (s32 a).tdiv (s32 b) % 4294967296 := by unfold quoL; rw [if_neg hb]; rfl
      by_cases hm : b = 4294967295
      · have q2 : quoL a b true = -a % 4294967296 := by
          rw [q, hm]
          have e1 : s32 4294967295 = -1 := rfl
          rw [e1, Int.tdiv_neg, Int.tdiv_one]
          unfold s32
          split <;> omega
        rw [q2]
        clear q q2 e hb
        subst hm
        go_enter Tryz.func72, Tryz.ntmps72
        go_wp2
        go_ret
        refine ⟨?_, rfl⟩
        rfl
      · have em : (b == 4294967295) = false := by simpa using hm
        have sa := s32_small a a0 a1
        have sb := s32_small b b0 b1
        have wa : wrap32 a = s32 a := (IntWalk.i32_left a).symm.trans (wrap_s32 a a0 a1)
        have wb : wrap32 b = s32 b := (IntWalk.i32_left b).symm.trans (wrap_s32 b b0 b1)
        have nb : s32 b ≠ 0 := by unfold s32; split <;> omega
        have nb1 : s32 b ≠ -1 := by unfold s32; split <;> omega
        have tb : -2147483648 ≤ (s32 a).tdiv (s32 b) ∧ (s32 a).tdiv (s32 b) < 2147483648 := by
          have h := tdiv_bound (y := s32 b) sa.1 sa.2
          refine ⟨h.1, ?_⟩
          rcases Int.lt_or_eq_of_le h.2 with h | h
          · exact h
          · exfalso
            have h1 : 2147483648 = (s32 a).natAbs / (s32 b).natAbs := by
              have := Int.natAbs_tdiv (s32 a) (s32 b)
              rw [h] at this
              exact this
            have h2 : (s32 a).natAbs ≤ 2147483648 := by omega
            have h3 : 1 < (s32 b).natAbs ∨ s32 b = 1 := by omega
            rcases h3 with h3 | h3
            · have := Nat.div_le_div_left (a := (s32 a).natAbs) (show 2 ≤ (s32 b).natAbs by omega) (by omega)
              omega
            · rw [h3, Int.tdiv_one] at h
              omega
        rw [q]
        clear q
        generalize s32 a = x at *
        generalize s32 b = y at *
        generalize hz : x.tdiv y = z at *
        have e2 : (y == 0) = false := by simpa using nb
        go_enter Tryz.func72, Tryz.ntmps72
        go_wp2
        go_ret
        exact ⟨rfl, rfl⟩
end Go.Proofs.YthbdmlcbdibiiaaGreatDoor
/- For the seat: a world in which the variable is laid. -/
namespace Go.Proofs.YthbdmlcbdibiiaaGreatDoor
open Go.Sx Go.ChangeShapes Go.WideShapes Go.RowKit Go.Joins Go.Deep
set_option maxRecDepth 100000
noncomputable def laidWorld (os : Os) : World :=
  { World.holding Tryz.prog os ⟨#[], #[], []⟩ with heap := (World.holding Tryz.prog os ⟨#[], #[], []⟩).heap.modify 0 fun
      | .cells _ t frozen => .cells cells12 t frozen
      | o => o }
set_option maxRecDepth 100000 in
theorem laid_met (W : World) (h0 : W.heap[0]? = some (.cells cells12 191 (0, 0))) : laidMet Tryz.prog [("cartouche/offs.kinds", Rows.laid_cartouche_offs_kinds)] W := by
  refine ⟨_, ⟨0, 191, cells12, 8, [], [], by kernel_rfl, by kernel_rfl, ?_, by kernel_rfl, rfl, rfl⟩, by decide, fun b off h => ?_⟩
  · simp only [World.var?, kindsG, Option.bind_some, h0]
  · have h' : MemPlace.cell b off ∈ [MemPlace.cell 0 0, .cell 0 1, .cell 0 2, .cell 0 3, .cell 0 4, .cell 0 5, .cell 0 6, .cell 0 7, .cell 0 8, .cell 0 9, .cell 0 10, .cell 0 11] := h
    have hb : b = 0 := by
      simp at h'
      omega
    subst hb
    refine ⟨⟨_, _, h0⟩, fun u v hc => ?_⟩
    simp only [World.cell?, h0] at hc
    simp at h'
    rcases h' with rfl | rfl | rfl | rfl | rfl | rfl | rfl | rfl | rfl | rfl | rfl | rfl <;> simp [cells12] at hc
end Go.Proofs.YthbdmlcbdibiiaaGreatDoor
/- For the seat: closed facts of its program, once. -/
namespace Go.Proofs.YthbdmlcbdibiiaaGreatDoor
open Go
set_option maxRecDepth 100000 in
theorem pEnter : Tryz.prog.mayEnter = true := by kernel_rfl
set_option maxRecDepth 100000 in
theorem pLifts : Tryz.prog.liftsFinal = Rows.machineReadsRow.lifted := by kernel_rfl
set_option maxRecDepth 100000 in
theorem pMake : Tryz.prog.make = some Rows.machineReadsRow.make := by kernel_rfl
set_option maxRecDepth 100000 in
theorem pMain : Tryz.prog.mainIs = some (true, "5383ebecef3adc7d0e3f55e059a08d3fa7ca35dd8798eeb7530c4feeab719f70".toList) := by kernel_rfl
set_option maxRecDepth 100000 in
theorem pLooks : false = Tryz.prog.looks [] := by kernel_rfl
end Go.Proofs.YthbdmlcbdibiiaaGreatDoor
