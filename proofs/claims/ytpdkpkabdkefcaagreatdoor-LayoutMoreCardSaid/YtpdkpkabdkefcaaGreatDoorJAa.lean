/- For the seat: texts joined: Base, Ints, LxD, LxA, ExD. -/
import Derived.Test.YtpdkpkabdkefcaaGreatDoorJSx
import Derived.Test.YtpdkpkabdkefcaaGreatDoorRows
import Derived.ChangeVars
import Derived.RowKit
import Derived.WalkKit
import Derived.OwnWalk
import Derived.LoopTactic
import Derived.BigQuiet
import Derived.Deep.QuietTactic
import Derived.Laws.OwnMore
import Derived.Deep.AppendLies
import Derived.Lib.Hide
import Derived.Laws.IdiomStrings
set_option maxRecDepth 100000
namespace Go.Proofs.YtpdkpkabdkefcaaGreatDoor
open Go.Sx Go.ChangeShapes Go.WideShapes Go.RowKit Go.Joins Go.Deep
def cells12 : Array Value := #[.int .i64 0, .bool false, .int .i64 8, .bool true, .int .i64 11, .bool true, .int .i64 20, .bool true, .int .i64 24, .bool true, .int .i64 6, .bool false]
def Laid (w : World) : Prop := ∃ t fz, w.heap[0]? = some (.cells cells12 t fz)
theorem own : ownKnob Tryz.prog.godebug = none := by kernel_rfl
theorem kindsG : Tryz.prog.globalNamed "cartouche/offs.kinds" = some 0 := by kernel_rfl
theorem kindsT : (Tryz.prog.globals[0]?).map (·.type) = some 110 := by kernel_rfl
theorem cellsOf126 : Tryz.prog.cellsOf 110 = 12 := by kernel_rfl
theorem cellsOf125 : Tryz.prog.cellsOf 109 = 2 := by kernel_rfl
theorem under126 : Tryz.prog.underlying 110 = some (.array 6 109) := by kernel_rfl
theorem kind_of_trod {H : Type} {enc : TypeId × Value → H} {w : World} {base : Nat} {sp : Nat → Bool} {held : Bool} {fuel : Nat} {a b : Value} {y : DataW H × List MemPlace}
    (h : DataW.trod enc Tryz.prog w base sp held fuel 109 [a, b] = some y) : ∃ n s, a = .int .i64 n ∧ b = .bool s ∧ y.1 = .agg [.lit (.int .i64 n), .lit (.bool s)] := by
  obtain ⟨fs, hs, hsz, hone, hk⟩ : ∃ fs : Array Field, Tryz.prog.underlying 109 = some (.struct fs) ∧ fs.size = 2 ∧ oneCellFields Tryz.prog fs = true ∧ flatKinds Tryz.prog fs.toList = some [some .i64, none] :=
    ⟨_, Tryz.underlying109, rfl, by kernel_rfl, by kernel_rfl⟩
  obtain ⟨xs, n, rfl, hx, _, hl, hf⟩ := DataW.trod_struct hs h
  obtain ⟨_, hk2⟩ := flatKinds_at hk
  rw [hsz] at hl
  have e0 : fs[0]? = some (fs[0]'(by omega)) := Array.getElem?_eq_getElem (by omega)
  have e1 : fs[1]? = some (fs[1]'(by omega)) := Array.getElem?_eq_getElem (by omega)
  obtain ⟨x0, x1, rfl⟩ : ∃ x0 x1, xs = [x0, x1] := by
    match xs, hl with
    | [x0, x1], _ => exact ⟨x0, x1, rfl⟩
  have g0 := hf 0 _ e0
  have g1 := hf 1 _ e1
  obtain ⟨o0, c0⟩ := hone_of hone 0 _ e0
  obtain ⟨o1, c1⟩ := hone_of hone 1 _ e1
  rw [o0, c0] at g0
  rw [o1, c1] at g1
  have g0' : DataW.trod enc Tryz.prog w base sp held n _ [a] = some x0 := g0
  have g1' : DataW.trod enc Tryz.prog w base sp held n _ [b] = some x1 := g1
  rcases hk2 0 _ (by rw [Array.getElem?_toList]; exact e0) with ⟨k, u1, u2⟩ | ⟨u1, _⟩
  · rcases hk2 1 _ (by rw [Array.getElem?_toList]; exact e1) with ⟨k', v1, _⟩ | ⟨v1, v2⟩
    · simp at v1
    · simp at u1
      subst u1
      obtain ⟨n', r1, r2, _⟩ := DataW.trod_int u2 g0'
      obtain ⟨s, r3, r4⟩ := DataW.trod_bool v2 g1'
      simp only [List.cons.injEq, and_true] at r1 r3
      refine ⟨n', s, r1, r3, ?_⟩
      rw [hx, r2, r4]; rfl
  · simp at u1
theorem cells_of_laid {W : World} (h : laidMet Tryz.prog [("cartouche/offs.kinds", Rows.laid_cartouche_offs_kinds)] W) : W.var? Tryz.prog "cartouche/offs.kinds" = some cells12 := by
  obtain ⟨ps, ⟨g, t, cs, fuel, p, q, hg, ht, hvar, hd, _, _⟩, _⟩ := h
  obtain rfl := Option.some.inj (kindsG.symm.trans hg)
  obtain rfl := Option.some.inj (kindsT.symm.trans ht)
  rw [hvar]
  congr 1
  obtain ⟨l⟩ := cs
  cases fuel with
  | zero => simp [DataW.trod] at hd
  | succ fuel =>
    simp only [DataW.trod, under126, cellsOf126, cellsOf125] at hd
    split at hd
    · rename_i hl
      obtain ⟨c0, c1, c2, c3, c4, c5, c6, c7, c8, c9, c10, c11, rfl⟩ : ∃ c0 c1 c2 c3 c4 c5 c6 c7 c8 c9 c10 c11, l = [c0, c1, c2, c3, c4, c5, c6, c7, c8, c9, c10, c11] := by
        match l, hl with
        | [c0, c1, c2, c3, c4, c5, c6, c7, c8, c9, c10, c11], _ => exact ⟨c0, c1, c2, c3, c4, c5, c6, c7, c8, c9, c10, c11, rfl⟩
      have e : List.range 6 = [0, 1, 2, 3, 4, 5] := rfl
      rw [e] at hd
      simp only [Option.map_eq_some_iff, List.mapM_cons, List.mapM_nil, Option.bind_eq_bind, Option.bind_eq_some_iff, Option.pure_def, Option.some.injEq] at hd
      obtain ⟨xs, ⟨y0, h0, _, ⟨y1, h1, _, ⟨y2, h2, _, ⟨y3, h3, _, ⟨y4, h4, _, ⟨y5, h5, _, rfl, rfl⟩, rfl⟩, rfl⟩, rfl⟩, rfl⟩, rfl⟩, hx⟩ := hd
      obtain ⟨n0, s0, rfl, rfl, k0⟩ := kind_of_trod h0
      obtain ⟨n1, s1, rfl, rfl, k1⟩ := kind_of_trod h1
      obtain ⟨n2, s2, rfl, rfl, k2⟩ := kind_of_trod h2
      obtain ⟨n3, s3, rfl, rfl, k3⟩ := kind_of_trod h3
      obtain ⟨n4, s4, rfl, rfl, k4⟩ := kind_of_trod h4
      obtain ⟨n5, s5, rfl, rfl, k5⟩ := kind_of_trod h5
      have hx' := congrArg Prod.fst hx
      simp only [List.map_cons, List.map_nil, k0, k1, k2, k3, k4, k5, Rows.laid_cartouche_offs_kinds] at hx'
      simp at hx'
      obtain ⟨⟨rfl, rfl⟩, ⟨rfl, rfl⟩, ⟨rfl, rfl⟩, ⟨rfl, rfl⟩, ⟨rfl, rfl⟩, ⟨rfl, rfl⟩⟩ := hx'
      rfl
    · cases hd
theorem laid_of {W : World} (h : laidMet Tryz.prog [("cartouche/offs.kinds", Rows.laid_cartouche_offs_kinds)] W) : Laid W := by
  have hv := cells_of_laid h
  simp only [World.var?, kindsG, Option.bind_some] at hv
  split at hv
  · rename_i cs t fz hh
    simp only [Option.some.injEq] at hv
    subst hv
    exact ⟨t, fz, hh⟩
  · cases hv
end Go.Proofs.YtpdkpkabdkefcaaGreatDoor
namespace Go.Proofs.YtpdkpkabdkefcaaGreatDoor
open Go.RowKit Go.Sx Go.Deep
theorem intInfo : (Tryz.prog.info? 3).map (fun i => (i.zero, i.size, i.bytes)) = some (some (.int .i64 0), 1, 8) := by kernel_rfl
def encI (l : List Int) : List Value := l.map (Value.int .i64)
theorem encI_len (l : List Int) : (encI l).length = l.length := by simp [encI]
theorem encI_snoc (l : List Int) (a : Int) : encI (l ++ [a]) = encI l ++ [.int .i64 a] := by simp [encI]
def IAt (w : World) (B : Nat) (A : Option Addr) (l : List Int) : Prop :=
  l ≠ [] → ∃ g off, A = some ⟨g, off, none⟩ ∧ g < B ∧ ∀ (i : Nat) (a : Int), l[i]? = some a → w.cell? ⟨g, off + i, none⟩ = some (.int .i64 a)
theorem IAt.nil (w : World) (B : Nat) (A : Option Addr) : IAt w B A [] := fun h => absurd rfl h
theorem IAt.keep {w w' : World} {B : Nat} {A : Option Addr} {l : List Int} (h : IAt w B A l) (hk : ∀ p : Addr, p.block < B → ∀ v, w.cell? p = some v → w'.cell? p = some v) : IAt w' B A l := by
  intro hn
  obtain ⟨g, off, e, hb, hc⟩ := h hn
  exact ⟨g, off, e, hb, fun i p hp => hk _ hb _ (hc i p hp)⟩
theorem IAt.below {w w' : World} {B B' : Nat} {A : Option Addr} {l : List Int} (h : IAt w B A l) (hb : Below B' w w') (hB : B ≤ B') : IAt w' B A l := h.keep fun _ hp _ e => (hb.cell (by omega)).trans e
theorem IAt.more {w : World} {B B' : Nat} {A : Option Addr} {l : List Int} (h : IAt w B A l) (hB : B ≤ B') : IAt w B' A l := by
  intro hn
  obtain ⟨g, off, e, hb, hc⟩ := h hn
  exact ⟨g, off, e, by omega, hc⟩
theorem IAt.at_ {w : World} {B : Nat} {A : Option Addr} {l : List Int} (h : IAt w B A l) {k : Nat} (hk : k < l.length) :
    ∃ g off, A = some ⟨g, off, none⟩ ∧ g < B ∧ w.cell? ⟨g, off + k, none⟩ = some (.int .i64 l[k]) := by
  obtain ⟨g, off, e, hb, hc⟩ := h (by intro e; subst e; simp at hk)
  exact ⟨g, off, e, hb, hc k l[k] (List.getElem?_eq_getElem hk)⟩
theorem IAt.of_own {w : World} {base : Nat} {A : Option Addr} {cap : Nat} {l : List Int} {e : TypeId} (h : w.ownsRow base e 1 (.slice A l.length cap) l.length (encI l)) : IAt w w.heap.size A l := by
  intro hn
  rcases h.2 with ⟨hv, h0⟩ | ⟨g, cap', cur, hv, hb, hh, _, _, hs, ht⟩
  · exact absurd (List.eq_nil_of_length_eq_zero h0) hn
  · have hA : A = some ⟨g, 0, none⟩ := by injection hv
    subst hA
    refine ⟨g, 0, rfl, (Array.getElem?_eq_some_iff.1 hh).1, fun i a hp => ?_⟩
    have k1 := h.cells (g := g) rfl i (.int .i64 a) (by simp [encI, hp])
    have z : ∀ n, (⟨g, 0, none⟩ : Addr).add n = ⟨g, 0 + n, none⟩ := fun n => by unfold Addr.add; split <;> simp_all
    rw [z] at k1
    exact k1
theorem own_below {w w' : World} {base : Nat} {e : TypeId} {size : Nat} {v : Value} {n : Nat} {xs : List Value} (h : w.ownsRow base e size v n xs) (hb : Below w.heap.size w w') : w'.ownsRow base e size v n xs := by
  obtain ⟨h1, h2⟩ := h
  refine ⟨h1, ?_⟩
  rcases h2 with h2 | ⟨g, cap, cur, hv, hg, hh, r⟩
  · exact Or.inl h2
  · exact Or.inr ⟨g, cap, cur, hv, hg, by rw [hb.block g (Array.getElem?_eq_some_iff.1 hh).1]; exact hh, r⟩
theorem one_new (w : World) (t : TypeId) (x : Value) : ∀ (j : Nat) (u : Value), [x][j]? = some u → (w.alloc (.cells #[x] t)).cell? ((⟨w.heap.size, 0, none⟩ : Addr).add j) = some u :=
  World.news_of_block (cs := #[x]) (t := t) (fr := (0, 0)) (heap_alloc_new w _)
theorem app_int (w0 : World) {ops : Array Oper} {rest : List Oper} {o : Oper} {a : Act} {Q : Exit → Act → World → Prop} (hgd : o.guard = none) (s x : Operand)
    (ho : o.op = .call { callee := .builtin .append, args := #[s, x], argTypes := #[26, 26] }) (base : Nat) (hbase : base ≤ w0.heap.size) (l : List Int) (b : Int) (hlen : l.length ≤ 5000000000)
    (v : Value) (hs : a.eval s = v) (hown : w0.ownsRow base 3 1 v l.length (encI l)) (g : Nat) (hx : a.eval x = .slice (some ⟨g, 0, none⟩) 1 1) (hg : g = w0.heap.size)
    (h : ∀ v' w', w'.ownsRow base 3 1 v' (l ++ [b]).length (encI (l ++ [b])) → Below base w0 w' → wpList Tryz.prog ops Q rest (a.put o.dst v') w') :
    wpList Tryz.prog ops Q (o :: rest) a (w0.alloc (.cells #[.int .i64 b] 3)) := by
  subst hg
  obtain ⟨i0, hi0, hz0, hz1, hz2⟩ := info_parts intInfo
  refine wpList_append_own _ hgd s x 26 ho base 3 i0 _ 1 8 Tryz.underlying26 hi0 hz0 hz1 hz2 rfl (by decide) v l.length (encI l) hs (hown.alloc _) ⟨w0.heap.size, 0, none⟩ 1 1 [.int .i64 b] hx rfl (one_new _ _ _)
    (fun u hu => by simp at hu; subst hu; rfl) (by unfold maxLen; omega) (by omega) (by simp; omega) ?_
  intro v' w' hown' hgrow _
  refine h v' w' (by rw [encI_snoc]; simpa using hown') ?_
  exact ((Below.refl base w0).alloc hbase _).grown hgrow (by simp; omega) (fun j hj => (hown.lt _ hj).1)
end Go.Proofs.YtpdkpkabdkefcaaGreatDoor
namespace Go.Rp
abbrev Bs := List UInt8
abbrev tx (l : Bs) : ByteArray := ⟨l.toArray⟩
def letZ (z : Int) : Bool := (decide (97 ≤ z) && decide (z ≤ 122)) || (z == 95 || z == 46)
def digZ (z : Int) : Bool := decide (48 ≤ z) && decide (z ≤ 57)
def letB (b : UInt8) : Bool := letZ b.toNat
def digB (b : UInt8) : Bool := digZ b.toNat
def nmB (b : UInt8) : Bool := letB b || digB b
def runL : Bs → Nat
  | [] => 0
  | b :: r => if letB b then 1 + (r.takeWhile nmB).length else 0
def isNm (l : Bs) : Bool := !l.isEmpty && decide (l.length ≤ 32) && (runL l == l.length) && !(l.any (· == 46))
def valR (z base : Int) : Int := if digZ z then z - 48 else if base = 16 ∧ 97 ≤ z ∧ z ≤ 102 then z - 87 else -1
def numGo (base : Int) : Bs → Int → Nat × Int
  | [], v => (0, v)
  | b :: r, v => if 0 ≤ valR b.toNat base then ((numGo base r (min (v * base + valR b.toNat base) 4294967296)).1 + 1, (numGo base r (min (v * base + valR b.toNat base) 4294967296)).2) else (0, v)
def hexL (l : Bs) : Bool := l.take 2 == [48, 120]
def baseL (l : Bs) : Int := if hexL l then 16 else 10
def fromL (l : Bs) : Nat := if hexL l then 2 else 0
def numL (l : Bs) : Nat × Int :=
  if (numGo (baseL l) (l.drop (fromL l)) 0).1 = 0 ∨ 4294967296 ≤ (numGo (baseL l) (l.drop (fromL l)) 0).2 ∨ (l.drop (fromL l + (numGo (baseL l) (l.drop (fromL l)) 0).1)).head?.any letB = true then (0, 0)
  else (fromL l + (numGo (baseL l) (l.drop (fromL l)) 0).1, (numGo (baseL l) (l.drop (fromL l)) 0).2)
def signsL : Bs := [44, 58, 35, 91, 93, 123, 125, 33, 61, 40, 41, 43, 45, 42, 38, 124, 126]
def sgnL (l : Bs) : Nat := if l.take 2 = [60, 60] ∨ l.take 2 = [62, 62] then 2 else match l with | [] => 0 | b :: _ => if signsL.contains b then 1 else 0
structure Tok where
  k : Int
  n : Int
  t : Bs
def blankB (b : UInt8) : Bool := b == 9 || b == 13 || b == 32
def lexF : Nat → Bs → Option (List Tok)
  | 0, _ => none
  | _ + 1, [] => some []
  | f + 1, b :: r =>
    if blankB b then lexF f r
    else if b == 64 || b == 59 then some []
    else if letB b then (if 32 < runL (b :: r) then none else (lexF f ((b :: r).drop (runL (b :: r)))).map (⟨1, 0, (b :: r).take (runL (b :: r))⟩ :: ·))
    else if digB b then (if (numL (b :: r)).1 = 0 then none else (lexF f ((b :: r).drop (numL (b :: r)).1)).map (⟨2, (numL (b :: r)).2, []⟩ :: ·))
    else (if sgnL (b :: r) = 0 then none else (lexF f ((b :: r).drop (sgnL (b :: r)))).map (⟨3, 0, (b :: r).take (sgnL (b :: r))⟩ :: ·))
theorem runL_pos {b : UInt8} {r : Bs} (h : letB b = true) : 0 < runL (b :: r) := by simp [runL, h]; omega
theorem runL_le : ∀ l : Bs, runL l ≤ l.length
  | [] => Nat.le_refl _
  | b :: r => by
    simp only [runL]
    split
    · have := (List.takeWhile_sublist (p := nmB) (l := r)).length_le
      simp; omega
    · exact Nat.zero_le _
theorem numGo_le (base : Int) : ∀ (l : Bs) (v : Int), (numGo base l v).1 ≤ l.length
  | [], _ => Nat.le_refl _
  | b :: r, v => by
    simp only [numGo]
    split
    · have := numGo_le base r (min (v * base + valR b.toNat base) 4294967296)
      simp; omega
    · exact Nat.zero_le _
theorem numL_le (l : Bs) : (numL l).1 ≤ l.length := by
  unfold numL
  split
  · exact Nat.zero_le _
  · rename_i h
    have := numGo_le (baseL l) (l.drop (fromL l)) 0
    simp only [List.length_drop] at this
    rcases Nat.lt_or_ge l.length (fromL l) with h1 | h1
    · exact absurd (.inl (by omega)) h
    · show fromL l + _ ≤ _
      omega
theorem valR_bound (z : UInt8) (base : Int) : valR z.toNat base < 16 := by
  have := z.toNat_lt
  unfold valR digZ
  split
  · rename_i h
    simp only [Bool.and_eq_true, decide_eq_true_eq] at h
    omega
  · split <;> omega
theorem numGo_bound (base : Int) (hb : 0 ≤ base) : ∀ (l : Bs) (v : Int), 0 ≤ v → v ≤ 4294967296 → 0 ≤ (numGo base l v).2 ∧ (numGo base l v).2 ≤ 4294967296
  | [], v, h, h' => ⟨h, h'⟩
  | b :: r, v, h, h' => by
    simp only [numGo]
    split
    · rename_i hv
      have := Int.mul_nonneg h hb
      exact numGo_bound base hb r _ (by omega) (by omega)
    · exact ⟨h, h'⟩
theorem baseL_cases (l : Bs) : baseL l = 16 ∨ baseL l = 10 := by unfold baseL; split <;> simp
theorem numL_bound (l : Bs) : 0 ≤ (numL l).2 ∧ (numL l).2 < 4294967296 := by
  unfold numL
  split
  · exact ⟨Int.le_refl _, by decide⟩
  · rename_i h
    have hb := numGo_bound (baseL l) (by rcases baseL_cases l with e | e <;> rw [e] <;> decide) (l.drop (fromL l)) 0 (Int.le_refl _) (by decide)
    have h1 : ¬ 4294967296 ≤ (numGo (baseL l) (l.drop (fromL l)) 0).2 := fun hc => h (.inr (.inl hc))
    exact ⟨hb.1, by show (numGo (baseL l) (l.drop (fromL l)) 0).2 < _; omega⟩
theorem sgnL_le : ∀ l : Bs, sgnL l ≤ l.length := by
  intro l
  unfold sgnL
  split
  · rename_i h
    match l, h with
    | [], h => simp at h
    | [_], h => simp at h
    | _ :: _ :: _, _ => simp
  · match l with
    | [] => simp
    | b :: r => simp only; split <;> simp
theorem lexF_more : ∀ (f : Nat) (l : Bs), l.length < f → ∀ g, l.length < g → lexF f l = lexF g l := by
  intro f
  induction f with
  | zero => intro l h; omega
  | succ f ih =>
    intro l hf g hg
    match g, hg with
    | g + 1, hg =>
    match l, hf, hg with
    | [], _, _ => rfl
    | b :: r, hf, hg =>
      simp only [List.length_cons] at hf hg
      simp only [lexF]
      have key : ∀ n, 0 < n → n ≤ (b :: r).length → lexF f ((b :: r).drop n) = lexF g ((b :: r).drop n) := fun n h0 h1 => by
        simp only [List.length_cons] at h1
        exact ih _ (by rw [List.length_drop, List.length_cons]; omega) g (by rw [List.length_drop, List.length_cons]; omega)
      split
      · exact ih r (by omega) g (by omega)
      split
      · rfl
      split
      · rename_i hl
        split
        · rfl
        · rw [key _ (runL_pos hl) (runL_le _)]
      split
      · split
        · rfl
        · rename_i h0
          rw [key _ (Nat.pos_of_ne_zero h0) (numL_le _)]
      · split
        · rfl
        · rename_i h0
          rw [key _ (Nat.pos_of_ne_zero h0) (sgnL_le _)]
def lexL (l : Bs) : Option (List Tok) := lexF (l.length + 1) l
def lineL (l : Bs) : Option (List Tok) := if 256 < l.length then none else lexL l
theorem lexL_nil : lexL [] = some [] := rfl
theorem lexL_drop {l : Bs} {n f : Nat} (h0 : 0 < n) (h1 : n ≤ l.length) (h : l.length = f) : lexF f (l.drop n) = lexL (l.drop n) := by
  unfold lexL
  exact lexF_more _ _ (by rw [List.length_drop]; omega) _ (by omega)
section
variable {b : UInt8} {r : Bs}
theorem lexL_blank (h : blankB b = true) : lexL (b :: r) = lexL r := by
  unfold lexL
  rw [List.length_cons, lexF, if_pos h]
theorem lexL_stop (h : blankB b = false) (h2 : (b == 64 || b == 59) = true) : lexL (b :: r) = some [] := by
  unfold lexL
  rw [List.length_cons, lexF, if_neg (by simp [h]), if_pos h2]
theorem lexL_name (h : blankB b = false) (h2 : (b == 64 || b == 59) = false) (h3 : letB b = true) :
    lexL (b :: r) = if 32 < runL (b :: r) then none else (lexL ((b :: r).drop (runL (b :: r)))).map (⟨1, 0, (b :: r).take (runL (b :: r))⟩ :: ·) := by
  rw [← lexL_drop (runL_pos h3) (runL_le _) (show (b :: r).length = r.length + 1 from rfl)]
  unfold lexL
  rw [List.length_cons, lexF, if_neg (by simp [h]), if_neg (by simp [h2]), if_pos h3]
theorem lexL_num (h : blankB b = false) (h2 : (b == 64 || b == 59) = false) (h3 : letB b = false) (h4 : digB b = true) :
    lexL (b :: r) = if (numL (b :: r)).1 = 0 then none else (lexL ((b :: r).drop (numL (b :: r)).1)).map (⟨2, (numL (b :: r)).2, []⟩ :: ·) := by
  split
  · rename_i h5
    unfold lexL
    rw [List.length_cons, lexF, if_neg (by simp [h]), if_neg (by simp [h2]), if_neg (by simp [h3]), if_pos h4, if_pos h5]
  · rename_i h5
    rw [← lexL_drop (Nat.pos_of_ne_zero h5) (numL_le _) (show (b :: r).length = r.length + 1 from rfl)]
    unfold lexL
    rw [List.length_cons, lexF, if_neg (by simp [h]), if_neg (by simp [h2]), if_neg (by simp [h3]), if_pos h4, if_neg h5]
theorem lexL_sign (h : blankB b = false) (h2 : (b == 64 || b == 59) = false) (h3 : letB b = false) (h4 : digB b = false) :
    lexL (b :: r) = if sgnL (b :: r) = 0 then none else (lexL ((b :: r).drop (sgnL (b :: r)))).map (⟨3, 0, (b :: r).take (sgnL (b :: r))⟩ :: ·) := by
  split
  · rename_i h5
    unfold lexL
    rw [List.length_cons, lexF, if_neg (by simp [h]), if_neg (by simp [h2]), if_neg (by simp [h3]), if_neg (by simp [h4]), if_pos h5]
  · rename_i h5
    rw [← lexL_drop (Nat.pos_of_ne_zero h5) (sgnL_le _) (show (b :: r).length = r.length + 1 from rfl)]
    unfold lexL
    rw [List.length_cons, lexF, if_neg (by simp [h]), if_neg (by simp [h2]), if_neg (by simp [h3]), if_neg (by simp [h4]), if_neg h5]
end
end Go.Rp
namespace Go.Proofs.YtpdkpkabdkefcaaGreatDoor
open Go.Sx Go.ChangeShapes Go.WideShapes Go.RowKit Go.Joins Go.Deep Go.Rp
theorem letter16 (z : Int) (w : World) : Calls Tryz.prog 100 #[.int .u8 z] w fun e w' => e = .returned (.bool (letZ z)) ∧ w' = w := by
  unfold letZ
  go_enter Tryz.func100, Tryz.ntmps100
  cases h1 : decide (97 ≤ z) <;> cases h2 : decide (z ≤ 122) <;> cases h3 : (z == 95) <;> cases h4 : (z == 46)
  all_goals go_wp2_with fail
  all_goals exact bodyPost_ret (results_tmp rfl _ _ _) rfl ⟨rfl, rfl⟩
theorem digit16 (z : Int) (w : World) : Calls Tryz.prog 102 #[.int .u8 z] w fun e w' => e = .returned (.bool (digZ z)) ∧ w' = w := by
  unfold digZ
  go_enter Tryz.func102, Tryz.ntmps102
  cases h1 : decide (48 ≤ z) <;> cases h2 : decide (z ≤ 57)
  all_goals go_wp2_with fail
  all_goals exact bodyPost_ret (results_tmp rfl _ _ _) rfl ⟨rfl, rfl⟩
theorem value16 (z base : Int) (hz : 0 ≤ z ∧ z < 256) (w : World) : Calls Tryz.prog 140 #[.int .u8 z, .int .i64 base] w fun e w' => e = .returned (.int .i64 (valR z base)) ∧ w' = w := by
  have hd := digit16 z w
  go_enter Tryz.func140, Tryz.ntmps140
  go_wp2_with fail
  ((with_reducible refine hd.mono ?_); rintro e w1 ⟨rfl, rfl⟩)
  cases h0 : digZ z
  · cases h1 : (base == 16) <;> cases h2 : decide (97 ≤ z) <;> cases h3 : decide (z ≤ 102)
    all_goals go_wp2_with fail
    all_goals refine bodyPost_ret (results_tmp rfl _ _ _) rfl ⟨?_, rfl⟩
    all_goals simp_all [valR]
    all_goals omega
  · go_wp2_with fail
    refine bodyPost_ret (results_tmp rfl _ _ _) rfl ⟨?_, rfl⟩
    have h1 := h0
    simp only [digZ, Bool.and_eq_true, decide_eq_true_eq] at h1
    simp [valR, h0]
    omega
def nmN (l : Bs) (n : Nat) : Nat := ((l.drop n).takeWhile nmB).length
theorem nmN_end {l : Bs} {n : Nat} (h : l.length ≤ n) : nmN l n = 0 := by simp [nmN, List.drop_eq_nil_of_le h]
theorem nmN_yes {l : Bs} {n : Nat} (h : n < l.length) (hb : nmB l[n] = true) : nmN l n = nmN l (n + 1) + 1 := by
  unfold nmN
  rw [List.drop_eq_getElem_cons h, List.takeWhile_cons_of_pos hb, List.length_cons]
theorem nmN_no {l : Bs} {n : Nat} (h : n < l.length) (hb : nmB l[n] = false) : nmN l n = 0 := by
  unfold nmN
  rw [List.drop_eq_getElem_cons h, List.takeWhile_cons_of_neg (by simp [hb])]
  rfl
theorem runL_nm {l : Bs} (h : 0 < l.length) : runL l = if letB l[0] then 1 + nmN l 1 else 0 := by
  rcases l with _ | ⟨b, r⟩
  · simp at h
  · rfl
theorem run16 (l : Bs) (hl : l.length ≤ 1000000000000) (w : World) : Calls Tryz.prog 101 #[.string (tx l)] w fun e w' => e = .returned (.int .i64 (runL l)) ∧ w' = w := by
  rcases Nat.eq_zero_or_pos l.length with h0 | h0
  · obtain rfl := List.eq_nil_of_length_eq_zero h0
    go_enter Tryz.func101, Tryz.ntmps101
    go_wp2_with fail
    exact bodyPost_ret (results_tmp rfl _ _ _) rfl ⟨rfl, rfl⟩
  · have hd := fun z w => letter16 z w
    have hg := fun z w => digit16 z w
    have hR := runL_nm h0
    generalize runL l = R at hR
    have e0 : l.isEmpty = false := by
      cases l
      · simp at h0
      · rfl
    go_enter Tryz.func101, Tryz.ntmps101
    go_wp2_with fail
    ((with_reducible refine (hd _ _).mono ?_); rintro e w1 ⟨rfl, rfl⟩)
    generalize hq : letZ _ = q
    have hq : letB l[0] = q := hq
    rw [hq] at hR
    cases q
    · go_wp2_with fail
      exact bodyPost_ret (results_tmp rfl _ _ _) rfl ⟨by simp [hR], rfl⟩
    · rw [if_pos rfl] at hR
      go_wp2_with fail
      go_loopw [3] (fun t wr => ∃ n : Nat, t = .int .i64 n ∧ 1 ≤ n ∧ n ≤ l.length ∧ R = n + nmN l n ∧ wr = w1) (fun t _ => l.length - (intOf t).toNat)
      case atStart => exact ⟨1, rfl, Nat.le_refl _, h0, hR, rfl⟩
      case round =>
        obtain ⟨n, rfl, h1, hn, he, rfl⟩ := hrel
        clear hR
        by_cases hlt : n < l.length
        · have u0 : decide ((n : Int) < (l.length : Int)) = true := decide_eq_true (by omega)
          go_wp2_with fail
          ((with_reducible refine (hd _ _).mono ?_); rintro e w1 ⟨rfl, rfl⟩)
          generalize hq1 : letZ _ = q1
          have hq1 : letB l[n] = q1 := hq1
          cases q1
          · go_wp2_with fail
            ((with_reducible refine (hg _ _).mono ?_); rintro e w1 ⟨rfl, rfl⟩)
            generalize hq2 : digZ _ = q2
            have hq2 : digB l[n] = q2 := hq2
            cases q2
            · go_wp2_with fail
              refine bodyPost_ret (results_tmp rfl _ _ _) rfl ⟨?_, rfl⟩
              rw [he, nmN_no hlt (by simp [nmB, hq1, hq2])]
              simp
            · go_wp2_with fail
              go_roundw
              case rel => exact ⟨n + 1, by go_num, by omega, by omega, by rw [he, nmN_yes hlt (by simp [nmB, hq2])]; omega, trivial⟩
              case measure => simp [intOf]; omega
          · go_wp2_with fail
            go_roundw
            case rel => exact ⟨n + 1, by go_num, by omega, by omega, by rw [he, nmN_yes hlt (by simp [nmB, hq1])]; omega, trivial⟩
            case measure => simp [intOf]; omega
        · go_wp2_with fail
          refine bodyPost_ret (results_tmp rfl _ _ _) rfl ⟨?_, rfl⟩
          rw [he, nmN_end (by omega)]
          simp
end Go.Proofs.YtpdkpkabdkefcaaGreatDoor
namespace Go.Rp
inductive Et where
  | mk (op n : Int) (s : Bs) (args : List Et)
def Et.op : Et → Int | .mk o _ _ _ => o
def ex0 : Et := .mk 0 0 [] []
theorem Et.ind {P : Et → Prop} (h : ∀ o n s a, (∀ x ∈ a, P x) → P (.mk o n s a)) : ∀ x, P x :=
  Et.rec (motive_1 := P) (motive_2 := fun a => ∀ x ∈ a, P x) h (fun x hx => by simp at hx) (fun y r hy hr x hx => by
    rcases List.mem_cons.1 hx with rfl | hx
    · exact hy
    · exact hr x hx)
mutual
def Et.beq : Et → Et → Bool
  | .mk o n s a, .mk o' n' s' a' => o == o' && (n == n' && (s == s' && (a.length == a'.length && Et.beqL a a')))
def Et.beqL : List Et → List Et → Bool
  | x :: r, y :: q => x.beq y && Et.beqL r q
  | _, _ => true
end
theorem Et.beq_iff : ∀ x y : Et, x.beq y = true ↔ x = y := by
  refine Et.ind fun o n s a ih y => ?_
  obtain ⟨o', n', s', a'⟩ := y
  simp only [Et.beq, Bool.and_eq_true, beq_iff_eq, Et.mk.injEq]
  have key : ∀ a : List Et, (∀ x ∈ a, ∀ y, x.beq y = true ↔ x = y) → ∀ a', (a.length = a'.length ∧ Et.beqL a a' = true) ↔ a = a' := by
    intro a
    induction a with
    | nil => intro _ a'; cases a' <;> simp [Et.beqL]
    | cons x r ihr =>
      intro hx a'
      cases a' with
      | nil => simp
      | cons y q =>
        have h1 := hx x (by simp) y
        have h2 := ihr (fun z hz => hx z (by simp [hz])) q
        simp only [List.length_cons, Nat.add_right_cancel_iff, Et.beqL, Bool.and_eq_true, List.cons.injEq, ← h1, ← h2]
        constructor
        · rintro ⟨e, b, l⟩; exact ⟨b, e, l⟩
        · rintro ⟨b, e, l⟩; exact ⟨e, b, l⟩
  rw [key a ih a']
def formP (o n : Int) (s : Bs) (k : Nat) : Bool :=
  if o = 1 then decide (k = 0) && (s.isEmpty && (decide (0 ≤ n) && decide (n < 4294967296)))
  else if o = 2 then decide (k = 0) && (decide (n = 0) && isNm s)
  else if o = 3 ∨ o = 4 then decide (k = 1) && (decide (n = 0) && s.isEmpty)
  else decide (5 ≤ o) && (decide (o ≤ 11) && (decide (k = 2) && (decide (n = 0) && s.isEmpty)))
mutual
def Et.parts : Et → Int → Int → Int
  | .mk o n s a, deep, left => if deep < 1 ∨ left - 1 < 0 ∨ formP o n s a.length = false then -1 else Et.partsL a (deep - 1) (left - 1)
def Et.partsL : List Et → Int → Int → Int
  | [], _, left => left
  | x :: r, deep, left => if left < 0 then left else Et.partsL r deep (x.parts deep left)
end
mutual
def Et.few : Et → Int → Int → Int
  | .mk _ _ s a, deep, left => if deep < 1 ∨ left - (1 + (a.length : Int) + (s.length : Int) / 100) < 0 then -1 else Et.fewL a (deep - 1) (left - (1 + (a.length : Int) + (s.length : Int) / 100))
def Et.fewL : List Et → Int → Int → Int
  | [], _, left => left
  | x :: r, deep, left => if left < 0 then left else Et.fewL r deep (x.few deep left)
end
mutual
def Et.deep : Et → Int → Bool
  | .mk _ _ _ a, most => if most < 1 then true else Et.deepL a (most - 1)
def Et.deepL : List Et → Int → Bool
  | [], _ => false
  | x :: r, most => x.deep most || Et.deepL r most
end
mutual
def Et.nms : Et → Bool
  | .mk _ _ s a => decide (s.length ≤ 1000000) && Et.nmsL a
def Et.nmsL : List Et → Bool
  | [] => true
  | x :: r => x.nms && Et.nmsL r
end
theorem nmsL_mem : ∀ {a : List Et}, Et.nmsL a = true → ∀ x ∈ a, x.nms = true
  | [], _, x, hx => by simp at hx
  | y :: r, h, x, hx => by
    rw [Et.nmsL, Bool.and_eq_true] at h
    rcases List.mem_cons.1 hx with rfl | hx
    · exact h.1
    · exact nmsL_mem h.2 x hx
def lvlX (o : Int) : Int := if o = 9 then 1 else if o = 8 then 2 else if o = 10 ∨ o = 11 then 3 else if o = 5 ∨ o = 6 then 4 else if o = 7 then 5 else 6
def sgnX (o : Int) : Bs := if o = 9 then [124] else if o = 8 then [38] else if o = 10 then [60, 60] else if o = 11 then [62, 62] else if o = 5 then [43] else if o = 6 then [45] else [42]
def digsQ (n : Nat) : Bs := if n = 0 then [] else digsQ (n / 10) ++ [UInt8.ofNat (48 + n % 10)]
termination_by n
decreasing_by omega
def digsN (n : Nat) : Bs := digsQ (n / 10) ++ [UInt8.ofNat (48 + n % 10)]
def partT (p : Int × Bs) (least : Int) : Bs := if lvlX p.1 < least then [40] ++ p.2 ++ [41] else p.2
def textP (o n : Int) (s : Bs) (l : List (Int × Bs)) : Bs :=
  if o = 1 then digsN n.toNat else if o = 2 then s else if o = 3 then [45] ++ partT (l.getD 0 (0, [])) 6 else if o = 4 then [126] ++ partT (l.getD 0 (0, [])) 6
  else partT (l.getD 0 (0, [])) (lvlX o) ++ [32] ++ sgnX o ++ [32] ++ partT (l.getD 1 (0, [])) (lvlX o + 1)
mutual
def Et.text : Et → Bs
  | .mk o n s a => textP o n s (Et.textL a)
def Et.textL : List Et → List (Int × Bs)
  | [] => []
  | x :: r => (x.op, x.text) :: Et.textL r
end
def Et.print (x : Et) : Bs := if x.parts 16 1000 < 0 then [] else x.text
def tok0 : Tok := ⟨0, 0, []⟩
def tokI (T : List Tok) (i : Int) : Tok := if i < 0 then tok0 else T.getD i.toNat tok0
def tokA (T : List Tok) (i : Nat) : Tok := T.getD i tok0
def isS (t : Tok) (s : Bs) : Bool := t.k == 3 && t.t == s
def opT (t : Tok) (lvl : Int) : Int :=
  if lvl = 1 then (if isS t [124] then 9 else 0) else if lvl = 2 then (if isS t [38] then 8 else 0)
  else if lvl = 3 then (if isS t [60, 60] then 10 else if isS t [62, 62] then 11 else 0)
  else if lvl = 4 then (if isS t [43] then 5 else if isS t [45] then 6 else 0)
  else if lvl = 5 then (if isS t [42] then 7 else 0) else 0
mutual
def termF (T : List Tok) : Nat → Int → Nat → Option (Et × Nat)
  | 0, _, _ => none
  | f + 1, lvl, i => if lvl = 6 then unF T f i else (termF T f (lvl + 1) i).bind fun p => loopF T f lvl p.1 p.2
def loopF (T : List Tok) : Nat → Int → Et → Nat → Option (Et × Nat)
  | 0, _, _, _ => none
  | f + 1, lvl, e, i => if opT (tokA T i) lvl = 0 then some (e, i) else (termF T f (lvl + 1) (i + 1)).bind fun p => loopF T f lvl (.mk (opT (tokA T i) lvl) 0 [] [e, p.1]) p.2
def unF (T : List Tok) : Nat → Nat → Option (Et × Nat)
  | 0, _ => none
  | f + 1, i =>
    if isS (tokA T i) [45] then (unF T f (i + 1)).map fun p => (.mk 3 0 [] [p.1], p.2)
    else if isS (tokA T i) [126] then (unF T f (i + 1)).map fun p => (.mk 4 0 [] [p.1], p.2)
    else if isS (tokA T i) [40] then (termF T f 1 (i + 1)).bind fun p => if isS (tokA T p.2) [41] then some (p.1, p.2 + 1) else none
    else if (tokA T i).k = 2 ∧ 0 ≤ (tokA T i).n ∧ (tokA T i).n < 4294967296 then some (.mk 1 (tokA T i).n [] [], i + 1)
    else if (tokA T i).k = 1 ∧ isNm (tokA T i).t = true then some (.mk 2 0 (tokA T i).t [], i + 1)
    else none
end
theorem tokA_lt {T : List Tok} {i : Nat} (h : (tokA T i).k ≠ 0) : i < T.length := by
  rcases Nat.lt_or_ge i T.length with h1 | h1
  · exact h1
  · exact absurd (by simp [tokA, List.getD, h1, tok0]) h
theorem isS_lt {T : List Tok} {i : Nat} {s : Bs} (h : isS (tokA T i) s = true) : i < T.length := by
  refine tokA_lt fun hk => ?_
  simp [isS, hk] at h
theorem opT_lt {T : List Tok} {i : Nat} {lvl : Int} (h : opT (tokA T i) lvl ≠ 0) : i < T.length := by
  refine tokA_lt fun hk => h ?_
  have : ∀ s, isS (tokA T i) s = false := fun s => by simp [isS, hk]
  simp [opT, this]
theorem term_gt (T : List Tok) : ∀ f, (∀ lvl i e j, termF T f lvl i = some (e, j) → i < j ∧ j ≤ T.length) ∧ (∀ lvl x i e j, i ≤ T.length → loopF T f lvl x i = some (e, j) → i ≤ j ∧ j ≤ T.length) ∧ (∀ i e j, unF T f i = some (e, j) → i < j ∧ j ≤ T.length) := by
  intro f
  induction f with
  | zero => exact ⟨fun _ _ _ _ h => by simp [termF] at h, fun _ _ _ _ _ _ h => by simp [loopF] at h, fun _ _ _ h => by simp [unF] at h⟩
  | succ f ih =>
    obtain ⟨i1, i2, i3⟩ := ih
    refine ⟨?_, ?_, ?_⟩
    · intro lvl i e j h
      simp only [termF] at h
      split at h
      · exact i3 _ _ _ h
      · rw [Option.bind_eq_some_iff] at h
        obtain ⟨p, hp, h⟩ := h
        have a := i1 _ _ p.1 p.2 hp
        have b := i2 _ _ _ _ _ a.2 h
        omega
    · intro lvl x i e j hi h
      simp only [loopF] at h
      split at h
      · cases h; omega
      · rw [Option.bind_eq_some_iff] at h
        obtain ⟨p, hp, h⟩ := h
        have a := i1 _ _ p.1 p.2 hp
        have b := i2 _ _ _ _ _ a.2 h
        omega
    · intro i e j h
      simp only [unF] at h
      split at h
      · rw [Option.map_eq_some_iff] at h
        obtain ⟨p, hp, h⟩ := h
        cases h
        have := i3 _ p.1 p.2 hp
        omega
      split at h
      · rw [Option.map_eq_some_iff] at h
        obtain ⟨p, hp, h⟩ := h
        cases h
        have := i3 _ p.1 p.2 hp
        omega
      split at h
      · rw [Option.bind_eq_some_iff] at h
        obtain ⟨p, hp, h⟩ := h
        split at h
        · rename_i hs
          cases h
          have := i1 _ _ p.1 p.2 hp
          have := isS_lt hs
          omega
        · cases h
      split at h
      · rename_i hk
        cases h
        have : i < T.length := tokA_lt (by omega)
        omega
      split at h
      · rename_i hk
        cases h
        have : i < T.length := tokA_lt (by omega)
        omega
      · cases h
def fuelT (T : List Tok) : Nat := 16 * T.length + 16
def readX (T : List Tok) (i : Nat) : Et × Nat × Int :=
  match termF T (fuelT T) 1 i with
  | none => (ex0, 0, 3)
  | some p => if p.1.deep 16 then (ex0, 0, 11) else (p.1, p.2, 0)
end Go.Rp
