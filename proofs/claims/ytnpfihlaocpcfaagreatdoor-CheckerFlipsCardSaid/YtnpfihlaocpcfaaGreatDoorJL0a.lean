/- For the seat: texts joined: Base, Ints, Count, Ops, ChkDef, UnpDef, Unp, KrU, LaidW, Enter. -/
import Derived.Test.YtnpfihlaocpcfaaGreatDoorSxFlat
import Derived.Test.YtnpfihlaocpcfaaGreatDoorSxOnes
import Derived.Test.YtnpfihlaocpcfaaGreatDoorRows
import Derived.ChangeVars
import Derived.RowKit
import Derived.WalkKit
import Derived.OwnWalk
import Derived.LoopTactic
import Derived.BigQuiet
import Derived.Deep.QuietTactic
import Derived.Laws.OwnMore
import Derived.Deep.AppendLies
import Derived.Lib.Hide
import Derived.Outline
import Derived.Deep.RegionHeldLaw
import Derived.Deep.RegionLaw
import Derived.Lib.Strings
import Derived.WalkLawsBesides
import Derived.Test.YtnpfihlaocpcfaaGreatDoorCards
import Derived.Test.YtnpfihlaocpcfaaGreatDoorTie
/- For the seat: the executor over its program, and the package's variable that is laid. -/
namespace Go.Proofs.YtnpfihlaocpcfaaGreatDoor
open Go.Sx Go.ChangeShapes Go.WideShapes Go.RowKit Go.Joins Go.Deep

def kindsS : SVal := .ofList [.int .i64 (.num 0), .bool (.bit false), .int .i64 (.num 8), .bool (.bit true), .int .i64 (.num 11), .bool (.bit true), .int .i64 (.num 20), .bool (.bit true), .int .i64 (.num 24), .bool (.bit true), .int .i64 (.num 6), .bool (.bit false)]

noncomputable def cx : Cx := { P := Tryz.prog, okT := [30], globs := [(0, kindsS)] }

set_option maxRecDepth 100000 in
theorem cxok : cx.Ok where
  okT := by
    intro t ht
    simp only [cx, List.mem_cons, List.not_mem_nil, or_false] at ht
    subst ht
    exact ⟨by kernel_rfl, by kernel_rfl⟩
  names := names_of (by kernel_rfl)
  mixed := by kernel_rfl

set_option maxRecDepth 100000 in
theorem globsC : Globs.Closed cx.globs := by
  intro g cs hg ρ ρ' ι
  simp only [cx, List.mem_cons, List.not_mem_nil, or_false, Prod.mk.injEq] at hg
  obtain ⟨rfl, rfl⟩ := hg
  rfl

def cells12 : Array Value := #[.int .i64 0, .bool false, .int .i64 8, .bool true, .int .i64 11, .bool true, .int .i64 20, .bool true, .int .i64 24, .bool true, .int .i64 6, .bool false]

set_option maxRecDepth 100000 in
theorem kinds_conc (ρ : Env) (ι : Nm) : kindsS.concL ρ ι = cells12.toList := rfl

/-- The laid variable stands there. -/
def Laid (w : World) : Prop := ∃ t fz, w.heap[0]? = some (.cells cells12 t fz)

set_option maxRecDepth 100000 in
theorem start (ρ : Env) {w : World} (h : Laid w) (hB : ∀ q, ρ.ab.B q → ownK w q := by exact fun _ h => False.elim h) : HR ρ cx.globs (ownK w) w ι0 [] w := by
  obtain ⟨t, fz, hw⟩ := h
  refine ⟨rfl, rfl, rfl, Nat.le_refl _, fun _ _ => rfl, fun _ h => h, hB, ?_, ?_, ?_⟩
  · intro n b hb; simp at hb
  · intro n m b c hb; simp at hb
  · intro g cs hg
    simp only [cx, List.mem_cons, List.not_mem_nil, or_false, Prod.mk.injEq] at hg
    obtain ⟨rfl, rfl⟩ := hg
    exact ⟨(Array.getElem?_eq_some_iff.1 hw).1, rfl, cells12, t, fz, hw, rfl⟩

set_option maxRecDepth 100000 in
theorem own : ownKnob Tryz.prog.godebug = none := by kernel_rfl
set_option maxRecDepth 100000 in
theorem kindsG : Tryz.prog.globalNamed "cartouche/offs.kinds" = some 0 := by kernel_rfl
set_option maxRecDepth 100000 in
theorem kindsT : (Tryz.prog.globals[0]?).map (·.type) = some 118 := by kernel_rfl
set_option maxRecDepth 100000 in
theorem cellsOf126 : Tryz.prog.cellsOf 118 = 12 := by kernel_rfl
set_option maxRecDepth 100000 in
theorem cellsOf125 : Tryz.prog.cellsOf 117 = 2 := by kernel_rfl
set_option maxRecDepth 100000 in
theorem cellsOf3 : Tryz.prog.cellsOf 3 = 1 := by kernel_rfl
set_option maxRecDepth 100000 in
theorem cellsOf4 : Tryz.prog.cellsOf 4 = 1 := by kernel_rfl
set_option maxRecDepth 100000 in
theorem under126 : Tryz.prog.underlying 118 = some (.array 6 117) := by kernel_rfl

set_option maxRecDepth 100000 in
theorem kind_of_trod {H : Type} {enc : TypeId × Value → H} {w : World} {base : Nat} {sp : Nat → Bool} {held : Bool} {fuel : Nat} {a b : Value} {y : DataW H × List MemPlace}
    (h : DataW.trod enc Tryz.prog w base sp held fuel 117 [a, b] = some y) : ∃ n s, a = .int .i64 n ∧ b = .bool s ∧ y.1 = .agg [.lit (.int .i64 n), .lit (.bool s)] := by
  obtain ⟨fs, hs, hsz, hone, hk⟩ : ∃ fs : Array Field, Tryz.prog.underlying 117 = some (.struct fs) ∧ fs.size = 2 ∧ oneCellFields Tryz.prog fs = true ∧ flatKinds Tryz.prog fs.toList = some [some .i64, none] :=
    ⟨_, Tryz.underlying117, rfl, by kernel_rfl, by kernel_rfl⟩
  obtain ⟨xs, n, rfl, hx, _, hl, hf⟩ := DataW.trod_struct hs h
  obtain ⟨_, hk2⟩ := flatKinds_at hk
  rw [hsz] at hl
  have e0 : fs[0]? = some (fs[0]'(by omega)) := Array.getElem?_eq_getElem (by omega)
  have e1 : fs[1]? = some (fs[1]'(by omega)) := Array.getElem?_eq_getElem (by omega)
  obtain ⟨x0, x1, rfl⟩ : ∃ x0 x1, xs = [x0, x1] := by
    match xs, hl with
    | [x0, x1], _ => exact ⟨x0, x1, rfl⟩
  have g0 := hf 0 _ e0
  have g1 := hf 1 _ e1
  obtain ⟨o0, c0⟩ := hone_of hone 0 _ e0
  obtain ⟨o1, c1⟩ := hone_of hone 1 _ e1
  rw [o0, c0] at g0
  rw [o1, c1] at g1
  have g0' : DataW.trod enc Tryz.prog w base sp held n _ [a] = some x0 := g0
  have g1' : DataW.trod enc Tryz.prog w base sp held n _ [b] = some x1 := g1
  rcases hk2 0 _ (by rw [Array.getElem?_toList]; exact e0) with ⟨k, u1, u2⟩ | ⟨u1, _⟩
  · rcases hk2 1 _ (by rw [Array.getElem?_toList]; exact e1) with ⟨k', v1, _⟩ | ⟨v1, v2⟩
    · simp at v1
    · simp at u1
      subst u1
      obtain ⟨n', r1, r2, _⟩ := DataW.trod_int u2 g0'
      obtain ⟨s, r3, r4⟩ := DataW.trod_bool v2 g1'
      simp only [List.cons.injEq, and_true] at r1 r3
      refine ⟨n', s, r1, r3, ?_⟩
      rw [hx, r2, r4]; rfl
  · simp at u1

set_option maxRecDepth 100000 in
theorem cells_of_laid {W : World} (h : laidMet Tryz.prog [("cartouche/offs.kinds", Rows.laid_cartouche_offs_kinds)] W) : W.var? Tryz.prog "cartouche/offs.kinds" = some cells12 := by
  obtain ⟨ps, ⟨g, t, cs, fuel, p, q, hg, ht, hvar, hd, _, _⟩, _⟩ := h
  obtain rfl := Option.some.inj (kindsG.symm.trans hg)
  obtain rfl := Option.some.inj (kindsT.symm.trans ht)
  rw [hvar]
  congr 1
  obtain ⟨l⟩ := cs
  cases fuel with
  | zero => simp [DataW.trod] at hd
  | succ fuel =>
    simp only [DataW.trod, under126, cellsOf126, cellsOf125] at hd
    split at hd
    · rename_i hl
      obtain ⟨c0, c1, c2, c3, c4, c5, c6, c7, c8, c9, c10, c11, rfl⟩ : ∃ c0 c1 c2 c3 c4 c5 c6 c7 c8 c9 c10 c11, l = [c0, c1, c2, c3, c4, c5, c6, c7, c8, c9, c10, c11] := by
        match l, hl with
        | [c0, c1, c2, c3, c4, c5, c6, c7, c8, c9, c10, c11], _ => exact ⟨c0, c1, c2, c3, c4, c5, c6, c7, c8, c9, c10, c11, rfl⟩
      have e : List.range 6 = [0, 1, 2, 3, 4, 5] := rfl
      rw [e] at hd
      simp only [Option.map_eq_some_iff, List.mapM_cons, List.mapM_nil, Option.bind_eq_bind, Option.bind_eq_some_iff, Option.pure_def, Option.some.injEq] at hd
      obtain ⟨xs, ⟨y0, h0, _, ⟨y1, h1, _, ⟨y2, h2, _, ⟨y3, h3, _, ⟨y4, h4, _, ⟨y5, h5, _, rfl, rfl⟩, rfl⟩, rfl⟩, rfl⟩, rfl⟩, rfl⟩, hx⟩ := hd
      obtain ⟨n0, s0, rfl, rfl, k0⟩ := kind_of_trod h0
      obtain ⟨n1, s1, rfl, rfl, k1⟩ := kind_of_trod h1
      obtain ⟨n2, s2, rfl, rfl, k2⟩ := kind_of_trod h2
      obtain ⟨n3, s3, rfl, rfl, k3⟩ := kind_of_trod h3
      obtain ⟨n4, s4, rfl, rfl, k4⟩ := kind_of_trod h4
      obtain ⟨n5, s5, rfl, rfl, k5⟩ := kind_of_trod h5
      have hx' := congrArg Prod.fst hx
      simp only [List.map_cons, List.map_nil, k0, k1, k2, k3, k4, k5, Rows.laid_cartouche_offs_kinds] at hx'
      simp at hx'
      obtain ⟨⟨rfl, rfl⟩, ⟨rfl, rfl⟩, ⟨rfl, rfl⟩, ⟨rfl, rfl⟩, ⟨rfl, rfl⟩, ⟨rfl, rfl⟩⟩ := hx'
      rfl
    · cases hd

set_option maxRecDepth 100000 in
theorem laid_of {W : World} (h : laidMet Tryz.prog [("cartouche/offs.kinds", Rows.laid_cartouche_offs_kinds)] W) : Laid W := by
  have hv := cells_of_laid h
  simp only [World.var?, kindsG, Option.bind_some] at hv
  split at hv
  · rename_i cs t fz hh
    simp only [Option.some.injEq] at hv
    subst hv
    exact ⟨t, fz, hh⟩
  · cases hv

end Go.Proofs.YtnpfihlaocpcfaaGreatDoor
/- For the seat: slices of numbers: how they read, and how they are made. -/
namespace Go.Proofs.YtnpfihlaocpcfaaGreatDoor
open Go.RowKit Go.Sx Go.Deep

set_option maxRecDepth 100000 in
theorem intInfo : (Tryz.prog.info? 3).map (fun i => (i.zero, i.size, i.bytes)) = some (some (.int .i64 0), 1, 8) := by kernel_rfl

def encI (l : List Int) : List Value := l.map (Value.int .i64)
set_option maxRecDepth 100000 in
theorem encI_len (l : List Int) : (encI l).length = l.length := by simp [encI]
set_option maxRecDepth 100000 in
theorem encI_snoc (l : List Int) (a : Int) : encI (l ++ [a]) = encI l ++ [.int .i64 a] := by simp [encI]

/-- A slice's address, below block B, where such numbers lie. -/
def IAt (w : World) (B : Nat) (A : Option Addr) (l : List Int) : Prop :=
  l ≠ [] → ∃ g off, A = some ⟨g, off, none⟩ ∧ g < B ∧ ∀ (i : Nat) (a : Int), l[i]? = some a → w.cell? ⟨g, off + i, none⟩ = some (.int .i64 a)

set_option maxRecDepth 100000 in
theorem IAt.nil (w : World) (B : Nat) (A : Option Addr) : IAt w B A [] := fun h => absurd rfl h
set_option maxRecDepth 100000 in
theorem IAt.keep {w w' : World} {B : Nat} {A : Option Addr} {l : List Int} (h : IAt w B A l) (hk : ∀ p : Addr, p.block < B → ∀ v, w.cell? p = some v → w'.cell? p = some v) : IAt w' B A l := by
  intro hn
  obtain ⟨g, off, e, hb, hc⟩ := h hn
  exact ⟨g, off, e, hb, fun i p hp => hk _ hb _ (hc i p hp)⟩
set_option maxRecDepth 100000 in
theorem IAt.below {w w' : World} {B B' : Nat} {A : Option Addr} {l : List Int} (h : IAt w B A l) (hb : Below B' w w') (hB : B ≤ B') : IAt w' B A l := h.keep fun _ hp _ e => (hb.cell (by omega)).trans e
set_option maxRecDepth 100000 in
theorem IAt.more {w : World} {B B' : Nat} {A : Option Addr} {l : List Int} (h : IAt w B A l) (hB : B ≤ B') : IAt w B' A l := by
  intro hn
  obtain ⟨g, off, e, hb, hc⟩ := h hn
  exact ⟨g, off, e, by omega, hc⟩
set_option maxRecDepth 100000 in
theorem IAt.at_ {w : World} {B : Nat} {A : Option Addr} {l : List Int} (h : IAt w B A l) {k : Nat} (hk : k < l.length) :
    ∃ g off, A = some ⟨g, off, none⟩ ∧ g < B ∧ w.cell? ⟨g, off + k, none⟩ = some (.int .i64 l[k]) := by
  obtain ⟨g, off, e, hb, hc⟩ := h (by intro e; subst e; simp at hk)
  exact ⟨g, off, e, hb, hc k l[k] (List.getElem?_eq_getElem hk)⟩
set_option maxRecDepth 100000 in
/-- What is behind a place. -/
theorem IAt.drop {w : World} {B : Nat} {g off : Nat} {l : List Int} (h : IAt w B (some ⟨g, off, none⟩) l) (k : Nat) : IAt w B (some ⟨g, off + k, none⟩) (l.drop k) := by
  intro hn
  have hl : l ≠ [] := by rintro rfl; simp at hn
  obtain ⟨g', off', e, hb, hc⟩ := h hl
  simp only [Option.some.injEq, Addr.mk.injEq, and_true] at e
  obtain ⟨rfl, rfl⟩ := e
  refine ⟨g, off + k, rfl, hb, fun i a ha => ?_⟩
  rw [List.getElem?_drop] at ha
  have := hc (k + i) a ha
  rwa [← Nat.add_assoc] at this

set_option maxRecDepth 100000 in
theorem IAt.of_own {w : World} {base : Nat} {A : Option Addr} {cap : Nat} {l : List Int} {e : TypeId} (h : w.ownsRow base e 1 (.slice A l.length cap) l.length (encI l)) : IAt w w.heap.size A l := by
  intro hn
  rcases h.2 with ⟨hv, h0⟩ | ⟨g, cap', cur, hv, hb, hh, _, _, hs, ht⟩
  · exact absurd (List.eq_nil_of_length_eq_zero h0) hn
  · have hA : A = some ⟨g, 0, none⟩ := by injection hv
    subst hA
    refine ⟨g, 0, rfl, (Array.getElem?_eq_some_iff.1 hh).1, fun i a hp => ?_⟩
    have k1 := h.cells (g := g) rfl i (.int .i64 a) (by simp [encI, hp])
    have z : ∀ n, (⟨g, 0, none⟩ : Addr).add n = ⟨g, 0 + n, none⟩ := fun n => by unfold Addr.add; split <;> simp_all
    rw [z] at k1
    exact k1

set_option maxRecDepth 100000 in
/-- What the call owns it owns still, where all that was there is left alone. -/
theorem own_below {w w' : World} {base : Nat} {e : TypeId} {size : Nat} {v : Value} {n : Nat} {xs : List Value} (h : w.ownsRow base e size v n xs) (hb : Below w.heap.size w w') : w'.ownsRow base e size v n xs := by
  obtain ⟨h1, h2⟩ := h
  refine ⟨h1, ?_⟩
  rcases h2 with h2 | ⟨g, cap, cur, hv, hg, hh, r⟩
  · exact Or.inl h2
  · exact Or.inr ⟨g, cap, cur, hv, hg, by rw [hb.block g (Array.getElem?_eq_some_iff.1 hh).1]; exact hh, r⟩

set_option maxRecDepth 100000 in
theorem one_new (w : World) (t : TypeId) (x : Value) : ∀ (j : Nat) (u : Value), [x][j]? = some u → (w.alloc (.cells #[x] t)).cell? ((⟨w.heap.size, 0, none⟩ : Addr).add j) = some u :=
  World.news_of_block (cs := #[x]) (t := t) (fr := (0, 0)) (heap_alloc_new w _)

set_option maxRecDepth 100000 in
/-- A number is appended to numbers of the call's own. -/
theorem app_int (w0 : World) {ops : Array Oper} {rest : List Oper} {o : Oper} {a : Act} {Q : Exit → Act → World → Prop} (hgd : o.guard = none) (s x : Operand)
    (ho : o.op = .call { callee := .builtin .append, args := #[s, x], argTypes := #[31, 31] }) (base : Nat) (hbase : base ≤ w0.heap.size) (l : List Int) (b : Int) (hlen : l.length ≤ 5000000000)
    (v : Value) (hs : a.eval s = v) (hown : w0.ownsRow base 3 1 v l.length (encI l)) (g : Nat) (hx : a.eval x = .slice (some ⟨g, 0, none⟩) 1 1) (hg : g = w0.heap.size)
    (h : ∀ v' w', w'.ownsRow base 3 1 v' (l ++ [b]).length (encI (l ++ [b])) → Below base w0 w' → wpList Tryz.prog ops Q rest (a.put o.dst v') w') :
    wpList Tryz.prog ops Q (o :: rest) a (w0.alloc (.cells #[.int .i64 b] 3)) := by
  subst hg
  obtain ⟨i0, hi0, hz0, hz1, hz2⟩ := info_parts intInfo
  refine wpList_append_own _ hgd s x 31 ho base 3 i0 _ 1 8 Tryz.underlying31 hi0 hz0 hz1 hz2 rfl (by decide) v l.length (encI l) hs (hown.alloc _) ⟨w0.heap.size, 0, none⟩ 1 1 [.int .i64 b] hx rfl (one_new _ _ _)
    (fun u hu => by simp at hu; subst hu; rfl) (by unfold maxLen; omega) (by omega) (by simp; omega) ?_
  intro v' w' hown' hgrow _
  refine h v' w' (by rw [encI_snoc]; simpa using hown') ?_
  exact ((Below.refl base w0).alloc hbase _).grown hgrow (by simp; omega) (fun j hj => (hown.lt _ hj).1)

end Go.Proofs.YtnpfihlaocpcfaaGreatDoor
/- For the seat: the reference's count of ones, walked. -/
namespace Go.Proofs.YtnpfihlaocpcfaaGreatDoor
open Go.Sx Go.RowKit Go.Sx.Ones

set_option maxRecDepth 100000 in
theorem popN_le : ∀ k n, popN k n ≤ k
  | 0, _ => Nat.le_refl _
  | k + 1, n => by have := popN_le k (n / 2); simp only [popN]; omega

set_option maxRecDepth 100000 in
theorem pop_half (m : Nat) (h : m < 9223372036854775808) : popN 64 m = m % 2 + popN 64 (m / 2) := by
  have e1 : popN 64 m = m % 2 + popN 63 (m / 2) := rfl
  have e2 : popN (63 + 1) (m / 2) = popN 63 (m / 2) + popN 1 (m / 2 / 2 ^ 63) := popN_add 63 1 (m / 2)
  have e3 : m / 2 / 2 ^ 63 = 0 := Nat.div_eq_of_lt (by omega)
  rw [e3, popN_zero] at e2
  rw [e1, show 64 = 63 + 1 from rfl, e2, Nat.add_zero]

def pop (n : Nat) : Nat := popN 64 n
set_option maxRecDepth 100000 in
theorem pop_zero : pop 0 = 0 := popN_zero 64
set_option maxRecDepth 100000 in
theorem pop_le (n : Nat) : pop n ≤ 64 := popN_le 64 n
set_option maxRecDepth 100000 in
theorem pop_step (m : Nat) (h : m < 9223372036854775808) : pop m = m % 2 + pop (m / 2) := pop_half m h

set_option maxRecDepth 100000 in
set_option maxHeartbeats 1000000 in
theorem count_any (n : Nat) (w : World) (hn : n < 9223372036854775808) : Calls Tryz.prog 111 #[.int .i64 n] w fun e w' => e = .returned (.int .i64 (pop n)) ∧ w' = w := by
  go_enter Tryz.func111, Tryz.ntmps111
  go_wp2
  go_loop [0, 3] (fun l c => ∃ m k : Nat, m < 9223372036854775808 ∧ l = .int .i64 m ∧ c = .int .i64 k ∧ k + pop m = pop n) (fun l _ => (intOf l).toNat)
  case atStart => exact ⟨n, 0, hn, rfl, rfl, by omega⟩
  case round =>
    obtain ⟨m, k, hm, rfl, rfl, hk⟩ := hrel
    have hp := pop_step m hm
    have hle := pop_le n
    have HK : Hid (k + pop m = pop n) := hk
    have HP : Hid (pop m = m % 2 + pop (m / 2)) := hp
    have hk64 : k ≤ 64 := by omega
    clear hk hp
    by_cases h0 : 0 < m
    · go_wp2
      go_round
      case rel => exact ⟨m / 2, k + m % 2, by omega, by go_num, by go_num, by have := HK.out; have := HP.out; omega⟩
      case measure => simp [intOf]; omega
    · have hz : m = 0 := by omega
      subst hz
      go_wp2
      go_ret
      have := HK.out
      rw [pop_zero] at this
      exact ⟨by rw [← this]; rfl, rfl⟩

end Go.Proofs.YtnpfihlaocpcfaaGreatDoor
/- For the seat: what the signs stand for; how many ones a number has. -/
namespace Go.Proofs.YtnpfihlaocpcfaaGreatDoor
open Go.Sx Go.ChangeShapes Go.WideShapes Go.RowKit Go.Joins Go.Deep Go.Sx.Ones

/-- The signs: 900 how many ones. -/
def F0 (g : Nat) (ss : List Sc) : Sc :=
  match Nat.beq g 900 with
  | true => .int (popI (ss.getD 0 (.int 0)).asInt)
  | false => .int 0

/-- 901 whether an instruction may be. -/
def F (g : Nat) (ss : List Sc) : Sc :=
  match Nat.beq g 901 with
  | true => Chk.chk.den (envOf F0 ss)
  | false => F0 g ss

set_option maxRecDepth 100000 in
theorem zero_has : kHas .i64 0 := by show -2 ^ 63 ≤ (0 : Int) ∧ (0 : Int) < 2 ^ 63; omega
set_option maxRecDepth 100000 in
theorem six_has : kHas .i64 6 := by show -2 ^ 63 ≤ (6 : Int) ∧ (6 : Int) < 2 ^ 63; omega

set_option maxRecDepth 100000 in
theorem F0_has (g : Nat) (ss : List Sc) : kHas .i64 (F0 g ss).asInt := by
  unfold F0
  split
  · exact popI_has _
  · exact zero_has

set_option maxRecDepth 100000 in
theorem chk_has (η : Env) : kHas .i64 (Chk.chk.den η).asInt := by
  unfold Chk.chk
  simp only [Tm.den]
  split
  · exact zero_has
  · exact six_has

set_option maxRecDepth 100000 in
theorem F_has (g : Nat) (ss : List Sc) : kHas .i64 (F g ss).asInt := by
  unfold F
  split
  · exact chk_has _
  · exact F0_has _ _

def sg : Sg := { defs := fun g => match Nat.beq g 901 with | true => some Chk.chk | false => none, ufs := [], pop := 900 }

set_option maxRecDepth 100000 in
theorem chk_signs : Chk.chk.signs (fun g => Nat.beq g 900) = true := by decide +kernel

set_option maxRecDepth 100000 in
theorem sg_ok {ρ : Env} (hF : ρ.f = F) : sg.Ok ρ := by
  refine ⟨?_, ?_, ?_⟩
  · intro g t h ss
    simp only [sg] at h
    split at h
    · rename_i hg
      have := Nat.eq_of_beq_eq_true hg
      subst this
      simp only [Option.some.injEq] at h; subst h
      rw [hF]
      show Chk.chk.den (envOf F0 ss) = _
      refine den_congr (P := fun g => Nat.beq g 900) rfl ?_ _ chk_signs
      intro g hg
      have := Nat.eq_of_beq_eq_true hg
      subst this
      rfl
    · cases h
  · intro g xs y hm; cases hm
  · intro s _
    rw [hF]
    rfl

noncomputable def onesTree : Tree Res := callT cx noS (run cx noS 400) 129 [.int .u64 (.var 0)] [] (.bit true)
set_option maxRecDepth 100000 in
theorem ones_run : leafInt .i64 onesTree = some onesE := by kernel_rfl

set_option maxRecDepth 100000 in
theorem ok0 : allN 64 (fun a => okAt a) = true := by kernel_rfl
set_option maxRecDepth 100000 in
theorem ok1 : allN 64 (fun a => okAt (64 + a)) = true := by kernel_rfl
set_option maxRecDepth 100000 in
theorem ok2 : allN 64 (fun a => okAt (128 + a)) = true := by kernel_rfl
set_option maxRecDepth 100000 in
theorem ok3 : allN 64 (fun a => okAt (192 + a)) = true := by kernel_rfl

set_option maxRecDepth 100000 in
theorem ones_pop (n : Nat) (h : n < 65536) : onesN n = popN 16 n := by
  have key : ∀ a, a < 256 → okAt a = true := by
    intro a ha
    by_cases h1 : a < 64
    · exact allN_get _ _ ok0 a h1
    by_cases h2 : a < 128
    · have := allN_get _ _ ok1 (a - 64) (by omega); rwa [show 64 + (a - 64) = a by omega] at this
    by_cases h3 : a < 192
    · have := allN_get _ _ ok2 (a - 128) (by omega); rwa [show 128 + (a - 128) = a by omega] at this
    · have := allN_get _ _ ok3 (a - 192) (by omega); rwa [show 192 + (a - 192) = a by omega] at this
  have h1 := allN_get _ _ (key (n / 256) (by omega)) (n % 256) (by omega)
  have h2 := Nat.eq_of_beq_eq_true h1
  have h3 : Nat.add (Nat.mul 256 (n / 256)) (n % 256) = n := Nat.div_add_mod n 256
  rw [h3] at h2
  exact h2

def onesPat : SVal := .cons (.int .u64 (.var 0)) .nil
def onesCond (ts : List Tm) : List Tm := [.op2 .le (ts.getD 0 (.num 0)) (.num 65535)]
def popR (t : Tm) : SVal := .int .i64 (.app 900 t)
def countPat : SVal := .cons (.int .i64 (.var 0)) .nil
def countCond (ts : List Tm) : List Tm := [.op2 .le (.num 0) (ts.getD 0 (.num 0))]

set_option maxRecDepth 100000 in
theorem ones_call {ρ : Env} (V : VarsOk ρ) (hF : ρ.f = F) : ∀ args h pc x, (pc.den ρ).asBool = true → (specC onesPat onesCond popR args h pc).get ρ = some x → CallOk ρ cx.globs cx.P 129 args h x := by
  refine specC_ok V globsC rfl (by intro u hu; simp [onesPat, SVal.toList] at hu; subst hu; rfl) (fun _ => rfl) ?_
  intro ts hl hp hc
  match ts, hl with
  | [t], _ =>
    have hp' : kHas .u64 (t.den ρ).asInt := hp.1
    have hp2 : 0 ≤ (t.den ρ).asInt ∧ (t.den ρ).asInt < 2 ^ 64 := hp'
    have hc' := hc (.op2 .le t (.num 65535)) (by simp [onesCond])
    have hc2 : (t.den ρ).asInt ≤ 65535 := of_decide_eq_true hc'
    obtain ⟨n, hn⟩ := Int.eq_ofNat_of_zero_le hp2.1
    have hn16 : n < 65536 := by omega
    obtain ⟨x, h1, h2⟩ := leafInt_get (envOf F0 [.int (n : Int)]) ones_run
    refine ⟨envOf F0 [.int (n : Int)], x, rfl, call_ok cxok (noS_ok _ _) (noS_body _) rfl h1, ?_, ?_⟩
    · intro ι
      simp only [onesPat, SVal.concL, SVal.conc, Tm.den, envOf, envA, envA, List.map_cons, List.map_nil, List.getD_cons_zero, Sc.asInt_int, hn]
    · intro u ι ι' hu
      rw [h2]
      have e := ones_den (ρ := envOf F0 [.int (n : Int)]) n hn16 rfl
      simp only [SVal.conc, popR, Tm.den, hu, hF]
      rw [e]
      have : F 900 [t.den ρ] = .int (popI (n : Int)) := by
        show Sc.int (popI (t.den ρ).asInt) = _
        rw [hn]
      simp only [List.map_cons, List.map_nil]
      rw [this, popI_small n hn16, ones_pop n hn16]

set_option maxRecDepth 100000 in
theorem count_call {ρ : Env} (V : VarsOk ρ) (hF : ρ.f = F) : ∀ args h pc x, (pc.den ρ).asBool = true → (specC countPat countCond popR args h pc).get ρ = some x → CallOk ρ cx.globs cx.P 111 args h x := by
  refine specC_ok V globsC rfl (by intro u hu; simp [countPat, SVal.toList] at hu; subst hu; rfl) (fun _ => rfl) ?_
  intro ts hl hp hc
  match ts, hl with
  | [t], _ =>
    have hp' : kHas .i64 (t.den ρ).asInt := hp.1
    have hp2 : -2 ^ 63 ≤ (t.den ρ).asInt ∧ (t.den ρ).asInt < 2 ^ 63 := hp'
    have hc' := hc (.op2 .le (.num 0) t) (by simp [countCond])
    have hc2 : 0 ≤ (t.den ρ).asInt := of_decide_eq_true hc'
    obtain ⟨n, hn⟩ := Int.eq_ofNat_of_zero_le hc2
    refine ⟨envOf F0 [.int (n : Int)], ⟨.int .i64 (.num (pop n : Int)), [], .bit true⟩, rfl, ?_, ?_, ?_⟩
    · refine callOk_of_same rfl ?_
      intro ι w
      exact count_any n w (by omega)
    · intro ι
      simp only [countPat, SVal.concL, SVal.conc, Tm.den, envOf, envA, envA, List.map_cons, List.map_nil, List.getD_cons_zero, Sc.asInt_int, hn]
    · intro u ι ι' hu
      simp only [SVal.conc, popR, Tm.den, hu, hF]
      have : F 900 [t.den ρ] = .int (popI (n : Int)) := by
        show Sc.int (popI (t.den ρ).asInt) = _
        rw [hn]
      simp only [List.map_cons, List.map_nil]
      rw [this]
      unfold popI
      rw [popB_nat]
      rfl

/-- How many ones: known. -/
def popS : Specs := fun f => match f with
  | 129 => some (specC onesPat onesCond popR)
  | 111 => some (specC countPat countCond popR)
  | _ => none

set_option maxRecDepth 100000 in
theorem popS_ok {ρ : Env} (V : VarsOk ρ) (hF : ρ.f = F) : popS.Ok ρ cx := by
  intro f sp h
  unfold popS at h
  split at h
  · simp only [Option.some.injEq] at h; subst h; exact ones_call V hF
  · simp only [Option.some.injEq] at h; subst h; exact count_call V hF
  · cases h

set_option maxRecDepth 100000 in
theorem popS_body : ∀ f, popS f ≠ none → ∃ fn c, cx.P.funcs[f]? = some fn ∧ fn.body = some c := by
  intro f h
  unfold popS at h
  split at h
  · exact ⟨Tryz.f129, _, Tryz.func129, rfl⟩
  · exact ⟨Tryz.f111, _, Tryz.func111, rfl⟩
  · exact (h rfl).elim

end Go.Proofs.YtnpfihlaocpcfaaGreatDoor
/- For the seat: 'Check' of both packages: the cases of the input. -/
namespace Go.Proofs.YtnpfihlaocpcfaaGreatDoor
open Go.Sx

def argT (o c n i : Tm) : SVal :=
  .agg (.cons (.int .i64 o) (.cons (.int .i64 c) (.cons (.int .i64 (.var 2)) (.cons (.int .i64 n) (.cons (.int .i64 (.var 4)) (.cons (.int .i64 i) (.cons (.int .i64 (.var 6)) (.cons (.int .i64 (.var 7)) (.cons (.bool (.var 8)) .nil)))))))))
def argL (o c n i : Tm) : Tm :=
  .cons o (.cons c (.cons (.var 2) (.cons n (.cons (.var 4) (.cons i (.cons (.var 6) (.cons (.var 7) (.cons (.var 8) .nil))))))))

def kn0 : Kn := ⟨[], [], [], [], [0, 1, 2, 3, 4, 5, 6, 7]⟩

namespace chk
def v (i : Nat) : Tm := .var i
def lt (a : Tm) (k : Int) : Tm := .op2 .lt a (.num k)
def gt (a : Tm) (k : Int) : Tm := .op2 .lt (.num k) a
def no (a : Tm) : Tm := .op1 .not a

/-- The error's number at some inputs is the sign's. -/
noncomputable def at' (f : Nat) (o c n i : Tm) (l : List Tm) (e : Kn) : Bool := pxInt sg .i64 (.app 901 (argL o c n i)) (callT cx popS (run cx popS 400) f [argT o c n i] [] (l.foldr mkAnd (.bit true))) e
noncomputable def goes (f k : Nat) : Bool := at' f (.num (Int.ofNat k)) (v 1) (v 3) (v 5) [] kn0
noncomputable def its (f c : Nat) : Bool := (List.range' 1 15).all fun m => at' f (.num 42) (.num (Int.ofNat c)) (v 3) (.num (Int.ofNat m)) [] kn0
noncomputable def low (f : Nat) : Bool := at' f (v 0) (v 1) (v 3) (v 5) [lt (v 0) 1] (kn0.tell (.le 0 0) true)
noncomputable def high (f : Nat) : Bool := at' f (v 0) (v 1) (v 3) (v 5) [no (lt (v 0) 1), gt (v 0) 45] (kn0.tell (.le 0 45) false)
noncomputable def itA (f : Nat) : Bool := at' f (.num 42) (v 1) (v 3) (v 5) [lt (v 1) 0] (kn0.tell (.le 1 (-1)) true)
noncomputable def itB (f : Nat) : Bool := at' f (.num 42) (v 1) (v 3) (v 5) [no (lt (v 1) 0), gt (v 1) 14] (kn0.tell (.le 1 14) false)
noncomputable def itC (f : Nat) : Bool := at' f (.num 42) (v 1) (v 3) (v 5) [no (lt (v 1) 0), no (gt (v 1) 14), lt (v 5) 1] (kn0.tell (.le 5 0) true)
noncomputable def itD (f : Nat) : Bool := at' f (.num 42) (v 1) (v 3) (v 5) [no (lt (v 1) 0), no (gt (v 1) 14), no (lt (v 5) 1), gt (v 5) 15] (kn0.tell (.le 5 15) false)
end chk
end Go.Proofs.YtnpfihlaocpcfaaGreatDoor
/- For the seat: bytes as halfwords. -/
namespace Go.Proofs.YtnpfihlaocpcfaaGreatDoor
open Go.RowKit

/-- A halfword of two bytes. -/
def halfB (a b : UInt8) : Int := bits BinOp.or IntKind.i64 (IntKind.i64.wrap (a.toNat : Int)) (IntKind.i64.wrap (IntKind.i64.wrap (b.toNat : Int) * 256))
/-- Bytes as halfwords. -/
def unpB : List UInt8 → List Int
  | [] => []
  | [a] => [IntKind.i64.wrap (a.toNat : Int)]
  | a :: b :: r => halfB a b :: unpB r

end Go.Proofs.YtnpfihlaocpcfaaGreatDoor
/- For the seat: bits.Unpack: bytes as halfwords. -/
namespace Go.Proofs.YtnpfihlaocpcfaaGreatDoor
open Go.Sx Go.ChangeShapes Go.WideShapes Go.RowKit Go.Joins Go.Deep

set_option maxRecDepth 100000 in
theorem unpB_len : ∀ l : List UInt8, (unpB l).length ≤ l.length
  | [] => Nat.le_refl _
  | [_] => Nat.le_refl _
  | a :: b :: r => by have := unpB_len r; simp only [unpB, List.length_cons]; omega

set_option maxRecDepth 100000 in
theorem halfB_has (a b : UInt8) : kHas .i64 (halfB a b) := by
  unfold halfB bits
  exact wrap_has _ _
set_option maxRecDepth 100000 in
theorem unpB_has : ∀ l : List UInt8, ∀ v ∈ unpB l, kHas .i64 v
  | [], v, h => by simp [unpB] at h
  | [a], v, h => by
    simp only [unpB, List.mem_cons, List.not_mem_nil, or_false] at h
    subst h
    exact wrap_has _ _
  | a :: b :: r, v, h => by
    simp only [unpB, List.mem_cons] at h
    rcases h with rfl | h
    · exact halfB_has a b
    · exact unpB_has r v h

set_option maxRecDepth 100000 in
/-- A number is appended to numbers of the call's own, where the order is drawn. -/
theorem step_app_int (w0 w1 : World) {ops : Array Oper} {o : Oper} {a : Act} {K : Act → World → Prop} {Q : Exit → Act → World → Prop} {E : Prop} (hgd : o.guard = none) (s x : Operand)
    (ho : o.op = .call { callee := .builtin .append, args := #[s, x], argTypes := #[31, 31] }) (base : Nat) (hbase : base ≤ w0.heap.size) (l : List Int) (b : Int) (hlen : l.length ≤ 5000000000)
    (v : Value) (hs : a.eval s = v) (hown : w0.ownsRow base 3 1 v l.length (encI l)) (g : Nat) (hx : a.eval x = .slice (some ⟨g, 0, none⟩) 1 1) (hg : g = w0.heap.size) (hw1 : w1 = w0.alloc (.cells #[.int .i64 b] 3))
    (h : ∀ v' w', w'.ownsRow base 3 1 v' (l ++ [b]).length (encI (l ++ [b])) → Below base w0 w' → K (a.put o.dst v') w') :
    if Region.wanted o (yielded ops a.tmps) = true then Oper.wp Tryz.prog o a w1 K Q else E := by
  subst hg hw1
  obtain ⟨i0, hi0, hz0, hz1, hz2⟩ := info_parts intInfo
  refine step_append_lies _ hgd s x 31 ho base 3 i0 _ 1 8 Tryz.underlying31 hi0 hz0 hz1 hz2 rfl (by decide) v l.length (encI l) hs (hown.alloc _) ⟨w0.heap.size, 0, none⟩ 1 1 [.int .i64 b] hx rfl (one_new _ _ _)
    (fun u hu => by simp at hu; subst hu; rfl) (by decide) (by unfold maxLen; omega) (by omega) (by simp; omega) _ rfl ?_
  intro g cap w' hown' hgrow _ _
  refine h _ w' (by rw [encI_snoc]; simpa using hown') ?_
  exact ((Below.refl base w0).alloc hbase _).grown hgrow (by simp; omega) (fun j hj => (hown.lt _ hj).1)

set_option maxRecDepth 100000 in
theorem own_out {w : World} {base : Nat} {v : Value} {l : List Int} (h : w.ownsRow base 3 1 v l.length (encI l)) : ∃ A cap, v = .slice A l.length cap ∧ IAt w w.heap.size A l ∧ l.length ≤ cap := by
  rcases h.2 with ⟨hv, h0⟩ | ⟨g, cap, cur, hv, hb, hh, hc, _⟩
  · obtain rfl := List.eq_nil_of_length_eq_zero h0
    exact ⟨none, 0, hv, IAt.nil _ _ _, Nat.zero_le _⟩
  · subst hv
    exact ⟨_, cap, rfl, IAt.of_own h, hc⟩

set_option maxRecDepth 100000 in
set_option maxHeartbeats 1000000 in
theorem unpack_any (s : ByteArray) (w : World) (hs : s.size ≤ 4000000000) :
    Calls Tryz.prog 27 #[.string s] w fun e w' => ∃ A cap, e = .returned (.slice A (unpB s.data.toList).length cap) ∧ IAt w' w'.heap.size A (unpB s.data.toList) ∧ (unpB s.data.toList).length ≤ cap ∧ Below w.heap.size w w' := by
  go_enter Tryz.func27, Tryz.ntmps27
  go_wp2
  go_loopw [0, 3] (fun t v wr => ∃ (b : ByteArray) (pre : List Int), t = .string b ∧ unpB s.data.toList = pre ++ unpB b.data.toList ∧ b.size ≤ s.size ∧ wr.ownsRow w.heap.size 3 1 v pre.length (encI pre) ∧ Below w.heap.size w wr) (fun t _ _ => match t with | .string b => b.size | _ => 0)
  case atStart => exact ⟨s, [], rfl, rfl, Nat.le_refl _, World.ownsRow_nil _ _ _ _, Below.refl _ _⟩
  case round =>
    obtain ⟨b, pre, rfl, hp, hbs, hown, hbr⟩ := hrel
    have hpl : pre.length ≤ s.size := by
      have := congrArg List.length hp
      rw [List.length_append] at this
      have h2 := unpB_len s.data.toList
      have h3 : s.data.toList.length = s.size := rfl
      omega
    have HP := Lib.hid hp
    clear hp
    by_cases h1 : 1 < b.size
    · have e1 : decide ((1 : Int) < (b.size : Int)) = true := decide_eq_true (by omega)
      have h0 : (0 : Nat) < b.size := by omega
      go_wp2_with fail
      go_region_held_law (fun _ => True) (trivial) (first | (refine step_app_int wr.drew _ rfl _ _ rfl w.heap.size hbr.size pre _ (by omega) _ rfl hown _ rfl rfl rfl ?_; intro v2 w2 hown2 hb2))
      go_wp2
      all_goals
        have hsz : b.data.toList.length = b.size := rfl
        obtain ⟨p, q, r, hb⟩ : ∃ p q r, b.data.toList = p :: q :: r := by
          match hl : b.data.toList with
          | [] => rw [hl] at hsz; simp at hsz; omega
          | [_] => rw [hl] at hsz; simp at hsz; omega
          | p :: q :: r => exact ⟨p, q, r, rfl⟩
        have hbl : b.size = r.length + 2 := by rw [← hsz, hb]; rfl
        have hx : (b.extract 2 b.size).data.toList = r := by
          rw [Lib.extract_data, hb, hbl]
          simp
        have hxs : (b.extract 2 b.size).size = r.length := by
          rw [← hx]; rfl
        have x0 : b[0] = p := by
          show b.data[0] = p
          rw [← Array.getElem_toList]; simp [hb]
        have x1 : b[1] = q := by
          show b.data[1] = q
          rw [← Array.getElem_toList]; simp [hb]
        refine ⟨⟨_, _, rfl, ?_, ?_, hown2, hbr.drew.trans hb2⟩, ?_⟩
        · rw [hx, HP.out, hb, x0, x1, List.append_assoc]; rfl
        · omega
        · show (b.extract 2 b.size).size < b.size
          omega
    · have e1 : decide ((1 : Int) < (b.size : Int)) = false := decide_eq_false (by omega)
      by_cases h2 : b.size = 1
      · have e2 : ((b.size : Int) == 1) = true := by rw [h2]; rfl
        have h0 : (0 : Nat) < b.size := by omega
        go_wp2_with (at_builtin; refine app_int wr rfl _ _ rfl w.heap.size hbr.size pre (wrap64 (b[0].toNat : Int)) (by omega) _ rfl ?_ _ rfl rfl ?_; exact hown; intro v2 w2 hown2 hb2)
        have hsz : b.data.toList.length = b.size := rfl
        obtain ⟨p, hb⟩ : ∃ p, b.data.toList = [p] := by
          match hl : b.data.toList with
          | [] => rw [hl] at hsz; simp at hsz; omega
          | [p] => exact ⟨p, rfl⟩
          | p :: q :: r => rw [hl] at hsz; simp at hsz; omega
        have x0 : b[0] = p := by
          show b.data[0] = p
          rw [← Array.getElem_toList]; simp [hb]
        have hfin : unpB s.data.toList = pre ++ [wrap64 (b[0].toNat : Int)] := by
          rw [HP.out, hb, x0, ← IntWalk.i64_left]; rfl
        rw [hfin]
        obtain ⟨A, cap, rfl, hA, hc⟩ := own_out hown2
        exact bodyPost_ret (results_tmp rfl _ _ _) rfl ⟨A, cap, rfl, hA, hc, hbr.trans hb2⟩
      · have e2 : ((b.size : Int) == 1) = false := by simpa using fun h => h2 (by omega)
        go_wp2_with fail
        have hb : b.data.toList = [] := by
          have hsz : b.data.toList.length = b.size := rfl
          exact List.eq_nil_of_length_eq_zero (by omega)
        have hfin : unpB s.data.toList = pre := by
          rw [HP.out, hb]; exact List.append_nil _
        rw [hfin]
        obtain ⟨A, cap, rfl, hA, hc⟩ := own_out hown
        exact bodyPost_ret (results_tmp rfl _ _ _) rfl ⟨A, cap, rfl, hA, hc, hbr⟩
#print axioms unpack_any
end Go.Proofs.YtnpfihlaocpcfaaGreatDoor
/- For the seat: the reference's Unpack: bytes as halfwords. -/
namespace Go.Proofs.YtnpfihlaocpcfaaGreatDoor
open Go.Sx Go.ChangeShapes Go.WideShapes Go.RowKit Go.Joins Go.Deep

/-- Bytes as halfwords, as the reference has them. -/
def unpR : List UInt8 → List Int
  | [] => []
  | [a] => [(a.toNat : Int)]
  | a :: b :: r => ((a.toNat : Int) + 256 * (b.toNat : Int)) :: unpR r

set_option maxRecDepth 100000 in
theorem unpR_len : ∀ l : List UInt8, (unpR l).length ≤ l.length
  | [] => Nat.le_refl _
  | [_] => Nat.le_refl _
  | a :: b :: r => by have := unpR_len r; simp only [unpR, List.length_cons]; omega

set_option maxRecDepth 100000 in
theorem byte_lt (a : UInt8) : a.toNat < 256 := a.toNat_lt

set_option maxRecDepth 100000 in
theorem unpR_has : ∀ l : List UInt8, ∀ v ∈ unpR l, 0 ≤ v ∧ v < 65536
  | [], v, h => by simp [unpR] at h
  | [a], v, h => by
    simp only [unpR, List.mem_cons, List.not_mem_nil, or_false] at h
    subst h
    have := byte_lt a
    omega
  | a :: b :: r, v, h => by
    simp only [unpR, List.mem_cons] at h
    rcases h with rfl | h
    · have := byte_lt a
      have := byte_lt b
      omega
    · exact unpR_has r v h

set_option maxRecDepth 100000 in
theorem halfB_eq (a b : UInt8) : halfB a b = (a.toNat : Int) + 256 * (b.toNat : Int) := by
  have h1 := byte_lt a
  have h2 := byte_lt b
  unfold halfB
  generalize a.toNat = m at h1
  generalize b.toNat = n at h2
  have w1 : IntKind.i64.wrap (m : Int) = (m : Int) := IntWalk.i64_in _ (by omega)
  have w2 : IntKind.i64.wrap (n : Int) = (n : Int) := IntWalk.i64_in _ (by omega)
  have w3 : IntKind.i64.wrap ((n : Int) * 256) = ((n * 256 : Nat) : Int) := by rw [IntWalk.i64_in _ (by omega)]; simp
  rw [w1, w2, w3]
  show IntKind.i64.wrap (BitVec.ofInt 64 (m : Int) ||| BitVec.ofInt 64 ((n * 256 : Nat) : Int)).toNat = (m : Int) + 256 * (n : Int)
  have e : (BitVec.ofInt 64 (m : Int) ||| BitVec.ofInt 64 ((n * 256 : Nat) : Int)).toNat = m + 256 * n := by
    rw [BitVec.toNat_or, BitVec.toNat_ofInt, BitVec.toNat_ofInt]
    have a1 : ((m : Int) % ((2 ^ 64 : Nat) : Int)).toNat = m := by omega
    have a2 : (((n * 256 : Nat) : Int) % ((2 ^ 64 : Nat) : Int)).toNat = n * 256 := by omega
    rw [a1, a2]
    have := Nat.two_pow_add_eq_or_of_lt (show m < 2 ^ 8 by omega) n
    rw [Nat.or_comm, show n * 256 = 2 ^ 8 * n by omega, ← this]
    omega
  rw [e, IntWalk.i64_in _ (by omega)]
  omega
set_option maxRecDepth 100000 in
/-- Both packages read bytes as the same halfwords. -/
theorem unpB_eq : ∀ l : List UInt8, unpB l = unpR l
  | [] => rfl
  | [a] => by
    have := byte_lt a
    show [IntKind.i64.wrap (a.toNat : Int)] = [(a.toNat : Int)]
    rw [IntWalk.i64_in _ (by omega)]
  | a :: b :: r => by
    show halfB a b :: unpB r = _
    rw [halfB_eq, unpB_eq r]
    rfl
set_option maxRecDepth 100000 in
theorem unpB_hw (l : List UInt8) : ∀ v ∈ unpB l, 0 ≤ v ∧ v < 65536 := by rw [unpB_eq]; exact unpR_has l

set_option maxRecDepth 100000 in
set_option maxHeartbeats 1000000 in
theorem unpackR_any (s : ByteArray) (w : World) (hs : s.size ≤ 4000000000) :
    Calls Tryz.prog 21 #[.string s] w fun e w' => ∃ A cap, e = .returned (.slice A (unpR s.data.toList).length cap) ∧ IAt w' w'.heap.size A (unpR s.data.toList) ∧ (unpR s.data.toList).length ≤ cap ∧ Below w.heap.size w w' := by
  have hsl : s.data.toList.length = s.size := rfl
  go_enter Tryz.func21, Tryz.ntmps21
  go_wp2
  go_loopw [3, 4] (fun v k wr => ∃ (i : Nat) (pre : List Int), k = .int .i64 i ∧ i ≤ s.size + 1 ∧ unpR s.data.toList = pre ++ unpR (s.data.toList.drop i) ∧ wr.ownsRow w.heap.size 3 1 v pre.length (encI pre) ∧ Below w.heap.size w wr) (fun _ k _ => s.size + 1 - (intOf k).toNat)
  case atStart => exact ⟨0, [], rfl, by omega, rfl, World.ownsRow_nil _ _ _ _, Below.refl _ _⟩
  case round =>
    obtain ⟨i, pre, rfl, hi, hp, hown, hbr⟩ := hrel
    have hpl : pre.length ≤ s.size := by
      have := congrArg List.length hp
      rw [List.length_append] at this
      have h2 := unpR_len s.data.toList
      omega
    by_cases hlt : i < s.size
    · have e1 : decide ((i : Int) < (s.size : Int)) = true := decide_eq_true (by omega)
      have hk0 : (0 : Int) ≤ (i : Int) := by omega
      have hkl : (i : Int) < (s.size : Int) := by omega
      have hx0 : s.data.toList.drop i = s[i] :: s.data.toList.drop (i + 1) := List.drop_eq_getElem_cons (by rw [hsl]; exact hlt)
      rw [hx0] at hp
      have hadd : IntKind.i64.wrap ((i : Int) + 1) = (i : Int) + 1 := IntWalk.i64_in _ (by omega)
      have hp0 := byte_lt s[i]
      generalize hv0 : s[i] = p at hp hp0
      by_cases h2 : i + 1 < s.size
      · have e2 : decide ((i : Int) + 1 < (s.size : Int)) = true := decide_eq_true (by omega)
        have hk1 : (0 : Int) ≤ (i : Int) + 1 := by omega
        have hkl1 : (i : Int) + 1 < (s.size : Int) := by omega
        have hx1 : s.data.toList.drop (i + 1) = s[i + 1] :: s.data.toList.drop (i + 1 + 1) := List.drop_eq_getElem_cons (by rw [hsl]; exact h2)
        have hp1 := byte_lt s[i + 1]
        rw [hx1] at hp
        generalize hv1 : s[i + 1] = q at hp hp1
        have HP := Lib.hid hp
        clear hp hx0 hx1
        go_wp2_with (at_builtin; refine app_int wr rfl _ _ rfl w.heap.size hbr.size pre ((p.toNat : Int) + 256 * (q.toNat : Int)) (by omega) _ rfl ?_ _ rfl rfl ?_; exact hown; intro v2 w2 hown2 hb2)
        refine ⟨⟨i + 2, pre ++ [(p.toNat : Int) + 256 * (q.toNat : Int)], by go_num, by omega, ?_, hown2, hbr.trans hb2⟩, ?_⟩
        · rw [HP.out, List.append_assoc]; rfl
        · simp [intOf]; omega
      · have e2 : decide ((i : Int) + 1 < (s.size : Int)) = false := decide_eq_false (by omega)
        have hx1 : s.data.toList.drop (i + 1) = [] := List.drop_eq_nil_of_le (by omega)
        rw [hx1] at hp
        have HP := Lib.hid hp
        clear hp hx0 hx1
        go_wp2_with (at_builtin; refine app_int wr rfl _ _ rfl w.heap.size hbr.size pre (p.toNat : Int) (by omega) _ rfl ?_ _ rfl rfl ?_; exact hown; intro v2 w2 hown2 hb2)
        refine ⟨⟨i + 2, pre ++ [(p.toNat : Int)], by go_num, by omega, ?_, hown2, hbr.trans hb2⟩, ?_⟩
        · rw [HP.out, List.append_assoc, List.drop_eq_nil_of_le (by omega : s.data.toList.length ≤ i + 2)]; rfl
        · simp [intOf]; omega
    · have hd : s.data.toList.drop i = [] := List.drop_eq_nil_of_le (by omega)
      have e1 : decide ((i : Int) < (s.size : Int)) = false := decide_eq_false (by omega)
      rw [hd] at hp
      have hfin : unpR s.data.toList = pre := by rw [hp]; exact List.append_nil _
      clear hp
      go_wp2_with fail
      rw [hfin]
      obtain ⟨A, cap, rfl, hA, hc⟩ := own_out hown
      exact bodyPost_ret (results_tmp rfl _ _ _) rfl ⟨A, cap, rfl, hA, hc, hbr⟩
end Go.Proofs.YtnpfihlaocpcfaaGreatDoor
/- For the seat: a world in which the variable is laid. -/
namespace Go.Proofs.YtnpfihlaocpcfaaGreatDoor
open Go.Sx Go.ChangeShapes Go.WideShapes Go.RowKit Go.Joins Go.Deep
set_option maxRecDepth 100000
/-- A world in which the variable is laid. -/
noncomputable def laidWorld (os : Os) : World :=
  { World.holding Tryz.prog os ⟨#[], #[], []⟩ with heap := (World.holding Tryz.prog os ⟨#[], #[], []⟩).heap.modify 0 fun
      | .cells _ t frozen => .cells cells12 t frozen
      | o => o }

set_option maxRecDepth 100000 in
theorem laid_met (W : World) (h0 : W.heap[0]? = some (.cells cells12 118 (0, 0))) : laidMet Tryz.prog [("cartouche/offs.kinds", Rows.laid_cartouche_offs_kinds)] W := by
  refine ⟨_, ⟨0, 118, cells12, 8, [], [], by kernel_rfl, by kernel_rfl, ?_, by kernel_rfl, rfl, rfl⟩, by decide, fun b off h => ?_⟩
  · simp only [World.var?, kindsG, Option.bind_some, h0]
  · have h' : MemPlace.cell b off ∈ [MemPlace.cell 0 0, .cell 0 1, .cell 0 2, .cell 0 3, .cell 0 4, .cell 0 5, .cell 0 6, .cell 0 7, .cell 0 8, .cell 0 9, .cell 0 10, .cell 0 11] := h
    have hb : b = 0 := by
      simp at h'
      omega
    subst hb
    refine ⟨⟨_, _, h0⟩, fun u v hc => ?_⟩
    simp only [World.cell?, h0] at hc
    simp at h'
    rcases h' with rfl | rfl | rfl | rfl | rfl | rfl | rfl | rfl | rfl | rfl | rfl | rfl <;> simp [cells12] at hc

end Go.Proofs.YtnpfihlaocpcfaaGreatDoor
/- For the seat: closed facts of its program, once. -/
namespace Go.Proofs.YtnpfihlaocpcfaaGreatDoor
open Go
set_option maxRecDepth 100000 in
theorem pEnter : Tryz.prog.mayEnter = true := by kernel_rfl
set_option maxRecDepth 100000 in
theorem pLifts : Tryz.prog.liftsFinal = Rows.checkerFlipsRow.lifted := by kernel_rfl
set_option maxRecDepth 100000 in
theorem pMake : Tryz.prog.make = some Rows.checkerFlipsRow.make := by kernel_rfl
set_option maxRecDepth 100000 in
theorem pMain : Tryz.prog.mainIs = some (true, "864f00a14bccc5efa04669977b86f8b8f8fe7becea85eda00f5d73d256e55283".toList) := by kernel_rfl
set_option maxRecDepth 100000 in
theorem pLooks : false = Tryz.prog.looks [] := by kernel_rfl
end Go.Proofs.YtnpfihlaocpcfaaGreatDoor
