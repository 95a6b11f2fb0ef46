/- For the seat: texts joined: MemPlain, MemKey, MemMap, MemRef, MemPut, MemSet, MemLoad, MemStore, MemNew, MchAbs, MchRow, MchMem, McDat, McLoad, McStore, McXst, MchSpc, Sort, MemCells, Base. -/
import Derived.Test.YthbdmlcbdibiiaaGreatDoorRows
import Derived.WalkKit
import Derived.Below
import Derived.Laws.BitsAllLaws
import Derived.Maps.OwnSet
import Derived.Maps.RangeWalk
import Derived.DeepKeys4
import Derived.WalkArith
import Derived.BigQuiet
import Derived.Deep.QuietTactic
import Derived.Lib.Hide
import Derived.OwnWalk
import Derived.Laws.OwnMore
import Derived.Deep.AppendLies
import Derived.Deep.RegionHeld3
import Derived.Test.YthbdmlcbdibiiaaGreatDoorJSxAbsX
import Derived.Shelf.SlSortCmp.NoneTotal
import Derived.Shelf.SlGeneric
import Derived.Ground.SlsfProg
import Derived.Test.YthbdmlcbdibiiaaGreatDoorProg
import Derived.Maps.Ext
import Derived.Test.YthbdmlcbdibiiaaGreatDoorJSxFlat
import Derived.Test.YthbdmlcbdibiiaaGreatDoorJSxOnes
import Derived.ChangeVars
import Derived.RowKit
/- Memory, plainly: bytes by rising addresses, none of 0. -/
namespace Go.Mem
abbrev Cells := List (Int × Int)
def getL : Cells → Int → Int
  | [], _ => 0
  | p :: r, x => if p.1 = x then p.2 else getL r x
def putG (a b : Int) : Bool → Cells → Cells
  | d, [] => if d then [] else [(a, b)]
  | d, p :: r =>
    if d = false ∧ a < p.1 then (a, b) :: (if p.1 = a then putG a b true r else p :: putG a b true r)
    else if p.1 = a then putG a b d r else p :: putG a b d r
def putL (c : Cells) (a b : Int) : Cells := putG a b (b == 0) c
structure Canon (c : Cells) : Prop where
  up : c.Pairwise (fun p q => p.1 < q.1)
  nz : ∀ p ∈ c, p.2 ≠ 0
set_option maxRecDepth 100000 in
theorem canon_nil : Canon [] := ⟨List.Pairwise.nil, by simp⟩
set_option maxRecDepth 100000 in
theorem Canon.tail {p : Int × Int} {c : Cells} (h : Canon (p :: c)) : Canon c := ⟨(List.pairwise_cons.1 h.up).2, fun q hq => h.nz q (by simp [hq])⟩
set_option maxRecDepth 100000 in
theorem Canon.head {p : Int × Int} {c : Cells} (h : Canon (p :: c)) : ∀ q ∈ c, p.1 < q.1 := (List.pairwise_cons.1 h.up).1
set_option maxRecDepth 100000 in
theorem getL_none {c : Cells} {x : Int} (h : ∀ q ∈ c, q.1 ≠ x) : getL c x = 0 := by
  induction c with
  | nil => rfl
  | cons p r ih => rw [getL, if_neg (h p (by simp)), ih (fun q hq => h q (by simp [hq]))]
set_option maxRecDepth 100000 in
theorem putG_true (a b : Int) : ∀ c : Cells, putG a b true c = c.filter (fun p => !(p.1 == a))
  | [] => rfl
  | p :: r => by
    unfold putG
    rw [if_neg (by simp), putG_true a b r]
    by_cases h : p.1 = a
    · rw [if_pos h]; simp [h]
    · rw [if_neg h]; simp [h]
set_option maxRecDepth 100000 in
theorem putG_get (a b : Int) : ∀ (d : Bool) (c : Cells), (d = true → b = 0) → ∀ x, getL (putG a b d c) x = if x = a then b else getL c x
  | d, [], hd, x => by
    unfold putG
    cases d
    · by_cases h : x = a
      · subst h; simp [getL]
      · have : ¬ a = x := fun e => h e.symm
        simp [getL, h, this]
    · simp [getL, hd rfl]
  | d, p :: r, hd, x => by
    have lay : ∀ x, getL (r.filter (fun p => !(p.1 == a))) x = if x = a then 0 else getL r x := by
      intro x
      induction r with
      | nil => simp [getL]
      | cons q s ih =>
        have ih := ih
        by_cases h : q.1 = a
        · simp only [List.filter_cons, h, beq_self_eq_true, Bool.not_true, Bool.false_eq_true, if_false]
          rw [ih, getL]
          by_cases hx : x = a
          · simp [hx]
          · have : ¬ q.1 = x := by rw [h]; exact fun e => hx e.symm
            simp [hx, this]
        · have hq : (!(q.1 == a)) = true := by simp [h]
          simp only [List.filter_cons, hq, if_true, getL]
          rw [ih]
          by_cases hx : x = a
          · simp [hx, h]
          · simp [hx]
    unfold putG
    split
    · rename_i hc
      have pa : ¬ p.1 = a := by omega
      rw [if_neg pa, putG_true]
      simp only [getL]
      by_cases hx : x = a
      · subst hx; simp
      · have : ¬ a = x := fun e => hx e.symm
        rw [if_neg this, if_neg hx, lay, if_neg hx]
    · split
      · rename_i hc hp
        rw [putG_get a b d r hd x]
        by_cases hx : x = a
        · simp [hx]
        · have : ¬ p.1 = x := by rw [hp]; exact fun e => hx e.symm
          simp [hx, getL, this]
      · rename_i hc hp
        simp only [getL]
        rw [putG_get a b d r hd x]
        by_cases hx : x = a
        · simp [hx, hp]
        · simp [hx]
set_option maxRecDepth 100000 in
theorem getL_put (c : Cells) (a b x : Int) : getL (putL c a b) x = if x = a then b else getL c x :=
  putG_get a b (b == 0) c (by intro h; simpa using h) x
set_option maxRecDepth 100000 in
theorem putG_mem {a b : Int} : ∀ (d : Bool) (c : Cells) (q : Int × Int), q ∈ putG a b d c → q ∈ c ∨ (q = (a, b) ∧ d = false)
  | d, [], q, h => by
    unfold putG at h
    cases d
    · simp at h; exact .inr ⟨h, rfl⟩
    · simp at h
  | d, p :: r, q, h => by
    unfold putG at h
    split at h
    · rename_i hc
      rcases List.mem_cons.1 h with h | h
      · exact .inr ⟨h, hc.1⟩
      · split at h
        · rw [putG_true] at h; exact .inl (List.mem_cons_of_mem _ (List.mem_filter.1 h).1)
        · rcases List.mem_cons.1 h with h | h
          · exact .inl (by simp [h])
          · rw [putG_true] at h; exact .inl (List.mem_cons_of_mem _ (List.mem_filter.1 h).1)
    · split at h
      · rcases putG_mem d r q h with h | h
        · exact .inl (List.mem_cons_of_mem _ h)
        · exact .inr h
      · rcases List.mem_cons.1 h with h | h
        · exact .inl (by simp [h])
        · rcases putG_mem d r q h with h | h
          · exact .inl (List.mem_cons_of_mem _ h)
          · exact .inr h
set_option maxRecDepth 100000 in
theorem putG_up {a b : Int} : ∀ (d : Bool) (c : Cells), c.Pairwise (fun p q => p.1 < q.1) → (putG a b d c).Pairwise (fun p q => p.1 < q.1)
  | d, [], _ => by
    unfold putG
    cases d <;> simp
  | d, p :: r, h => by
    obtain ⟨h1, h2⟩ := List.pairwise_cons.1 h
    unfold putG
    split
    · rename_i hc
      have pa : ¬ p.1 = a := by omega
      rw [if_neg pa, putG_true]
      refine List.pairwise_cons.2 ⟨?_, List.pairwise_cons.2 ⟨?_, h2.filter _⟩⟩
      · intro q hq
        rcases List.mem_cons.1 hq with rfl | hq
        · exact hc.2
        · have := h1 q (List.mem_filter.1 hq).1
          show a < q.1
          omega
      · intro q hq; exact h1 q (List.mem_filter.1 hq).1
    · split
      · exact putG_up d r h2
      · rename_i hc hp
        refine List.pairwise_cons.2 ⟨?_, putG_up d r h2⟩
        intro q hq
        rcases putG_mem d r q hq with hq | ⟨rfl, hd⟩
        · exact h1 q hq
        · show p.1 < a
          have : ¬ a < p.1 := fun hlt => hc ⟨hd, hlt⟩
          omega
set_option maxRecDepth 100000 in
theorem canon_put {c : Cells} (h : Canon c) (a b : Int) : Canon (putL c a b) := by
  refine ⟨putG_up _ _ h.up, ?_⟩
  intro q hq
  rcases putG_mem _ _ _ hq with hq | ⟨rfl, hd⟩
  · exact h.nz q hq
  · simpa using hd
set_option maxRecDepth 100000 in
theorem mem_iff {c : Cells} (h : Canon c) (x y : Int) : (x, y) ∈ c ↔ getL c x = y ∧ y ≠ 0 := by
  induction c with
  | nil => simp [getL]; intro e; exact e.symm
  | cons p r ih =>
    have hr := ih h.tail
    rw [getL]
    by_cases e : p.1 = x
    · rw [if_pos e]
      constructor
      · intro hm
        rcases List.mem_cons.1 hm with hm | hm
        · have := h.nz (x, y) (by simp [hm])
          exact ⟨by rw [← hm], this⟩
        · have := h.head _ hm
          simp at this; omega
      · rintro ⟨rfl, hy⟩
        have : (x, p.2) = p := by rw [← e]
        simp [this]
    · rw [if_neg e, List.mem_cons]
      constructor
      · rintro (hm | hm)
        · exact (e (by rw [← hm])).elim
        · exact hr.1 hm
      · intro hm; exact .inr (hr.2 hm)
set_option maxRecDepth 100000 in
theorem canon_ext : ∀ {c d : Cells}, Canon c → Canon d → (∀ p, p ∈ c ↔ p ∈ d) → c = d
  | [], [], _, _, _ => rfl
  | [], q :: s, _, _, h => by have := (h q).2 (by simp); simp at this
  | p :: r, [], _, _, h => by have := (h p).1 (by simp); simp at this
  | p :: r, q :: s, h1, h2, h => by
    have e : p = q := by
      rcases List.mem_cons.1 ((h p).1 (by simp)) with e | hp
      · exact e
      · rcases List.mem_cons.1 ((h q).2 (by simp)) with e | hq
        · exact e.symm
        · have a := h1.head _ hq
          have b := h2.head _ hp
          omega
    subst e
    rw [canon_ext h1.tail h2.tail (fun x => ⟨fun hx => by
      rcases List.mem_cons.1 ((h x).1 (by simp [hx])) with e | hx'
      · have := h1.head x hx; rw [e] at this; omega
      · exact hx', fun hx => by
      rcases List.mem_cons.1 ((h x).2 (by simp [hx])) with e | hx'
      · have := h2.head x hx; rw [e] at this; omega
      · exact hx'⟩)]
def newL (l : Cells) : Cells := l.foldl (fun c p => putL c p.1 p.2) []
set_option maxRecDepth 100000 in
theorem canon_fold : ∀ (l c : Cells), Canon c → Canon (l.foldl (fun c p => putL c p.1 p.2) c)
  | [], _, h => h
  | p :: l, _, h => canon_fold l _ (canon_put h p.1 p.2)
set_option maxRecDepth 100000 in
theorem canon_new (l : Cells) : Canon (newL l) := canon_fold l [] canon_nil
end Go.Mem
namespace Go.Mem
def w32 (n : Int) : Int := n % 4294967296
def sizeB (n : Int) : Bool := n == 1 || n == 2 || n == 4
def loadN (c : Cells) (a : Int) : Nat → Int
  | 0 => 0
  | n + 1 => getL c (w32 a) + 256 * loadN c (a + 1) n
def storeN (c : Cells) (a v : Int) : Nat → Cells
  | 0 => c
  | n + 1 => storeN (putL c (w32 a) (v % 256)) (a + 1) (v / 256) n
end Go.Mem
namespace Go.Mem
set_option maxRecDepth 100000 in
theorem getL_ne {c : Cells} {p : Int × Int} (h : Canon c) (hp : p ∈ c) : getL c p.1 = p.2 := ((mem_iff h p.1 p.2).1 hp).1
set_option maxRecDepth 100000 in
theorem getL_mem {c : Cells} {x : Int} (h : getL c x ≠ 0) : (x, getL c x) ∈ c := by
  induction c with
  | nil => exact absurd rfl h
  | cons p r ih =>
    rw [getL] at h ⊢
    by_cases e : p.1 = x
    · rw [if_pos e]; exact List.mem_cons.2 (.inl (by rw [← e]))
    · rw [if_neg e] at h ⊢; exact List.mem_cons_of_mem _ (ih h)
set_option maxRecDepth 100000 in
theorem length_true (a b : Int) : ∀ c : Cells, Canon c → (putG a b true c).length + (if getL c a = 0 then 0 else 1) = c.length
  | [], _ => by simp [putG, getL]
  | p :: r, h => by
    have ih := length_true a b r h.tail
    have hp := h.nz p (by simp)
    unfold putG
    rw [if_neg (by simp), getL]
    by_cases e : p.1 = a
    · rw [if_pos e, if_pos e, if_neg hp]
      have hn : getL r a = 0 := getL_none (fun q hq => by have := h.head q hq; omega)
      rw [hn, if_pos rfl] at ih
      simp only [List.length_cons]
      omega
    · rw [if_neg e, if_neg e]
      simp only [List.length_cons]
      omega
set_option maxRecDepth 100000 in
theorem length_false (a b : Int) (hb : b ≠ 0) : ∀ c : Cells, Canon c → (putG a b false c).length = c.length + (if getL c a = 0 then 1 else 0)
  | [], _ => by simp [putG, getL]
  | p :: r, h => by
    have hp := h.nz p (by simp)
    unfold putG
    rw [getL]
    by_cases e : p.1 = a
    · rw [if_neg (by omega), if_pos e, if_pos e, if_neg hp]
      have hn : getL r a = 0 := getL_none (fun q hq => by have := h.head q hq; omega)
      have ih := length_false a b hb r h.tail
      rw [hn, if_pos rfl] at ih
      simp only [List.length_cons]
      omega
    · by_cases hlt : a < p.1
      · have hn : getL r a = 0 := getL_none (fun q hq => by have := h.head q hq; omega)
        have ih := length_true a b r h.tail
        rw [hn, if_pos rfl] at ih
        rw [if_pos ⟨rfl, hlt⟩, if_neg e, if_neg e, hn, if_pos rfl]
        simp only [List.length_cons]
        omega
      · have ih := length_false a b hb r h.tail
        rw [if_neg (fun k => hlt k.2), if_neg e, if_neg e]
        simp only [List.length_cons]
        omega
set_option maxRecDepth 100000 in
theorem length_del {c : Cells} (h : Canon c) (a : Int) : (putL c a 0).length + (if getL c a = 0 then 0 else 1) = c.length := length_true a 0 c h
set_option maxRecDepth 100000 in
theorem length_put {c : Cells} (h : Canon c) (a b : Int) (hb : b ≠ 0) : (putL c a b).length = c.length + (if getL c a = 0 then 1 else 0) := by
  have e : (b == 0) = false := by simpa using hb
  unfold putL
  rw [e]
  exact length_false a b hb c h
set_option maxRecDepth 100000 in
theorem length_put_le (c : Cells) (a b : Int) : (putL c a b).length ≤ c.length + 1 := by
  have key : ∀ (d : Bool) (c : Cells), (putG a b d c).length ≤ c.length + (if d then 0 else 1) := by
    intro d c
    induction c generalizing d with
    | nil => cases d <;> simp [putG]
    | cons p r ih =>
      unfold putG
      split
      · rename_i hc
        rw [hc.1]
        have := ih true
        split <;> simp at * <;> omega
      · have := ih d
        split <;> cases d <;> simp at * <;> omega
  have := key (b == 0) c
  unfold putL
  split at this <;> omega
def InR (c : Cells) : Prop := ∀ p ∈ c, 0 ≤ p.1 ∧ p.1 < 4294967296 ∧ 0 ≤ p.2 ∧ p.2 < 256
set_option maxRecDepth 100000 in
theorem inR_nil : InR [] := fun _ h => by cases h
set_option maxRecDepth 100000 in
theorem InR.put {c : Cells} (h : InR c) {a b : Int} (h0 : 0 ≤ a) (h1 : a < 4294967296) (h2 : 0 ≤ b) (h3 : b < 256) : InR (putL c a b) := by
  intro q hq
  rcases putG_mem _ _ _ hq with hq | ⟨rfl, _⟩
  · exact h q hq
  · exact ⟨h0, h1, h2, h3⟩
set_option maxRecDepth 100000 in
theorem InR.get {c : Cells} (h : InR c) (x : Int) : 0 ≤ getL c x ∧ getL c x < 256 := by
  by_cases e : getL c x = 0
  · rw [e]; omega
  · have := h _ (getL_mem e); exact ⟨this.2.2.1, this.2.2.2⟩
set_option maxRecDepth 100000 in
theorem length_le_of {c : Cells} : ∀ (lo : Int), lo ≤ 4294967296 → Canon c → (∀ p ∈ c, lo ≤ p.1 ∧ p.1 < 4294967296) → (c.length : Int) ≤ 4294967296 - lo := by
  induction c with
  | nil => intro lo hlo _ _; simp; omega
  | cons p r ih =>
    intro lo hlo hc h
    have hp := h p (by simp)
    have := ih (p.1 + 1) (by omega) hc.tail (fun q hq => ⟨by have := hc.head q hq; omega, (h q (by simp [hq])).2⟩)
    simp only [List.length_cons]
    omega
set_option maxRecDepth 100000 in
theorem length_le {c : Cells} (hc : Canon c) (h : InR c) : c.length ≤ 4294967296 := by
  have := length_le_of 0 (by omega) hc (fun p hp => ⟨(h p hp).1, (h p hp).2.1⟩)
  omega
end Go.Mem
namespace Go.Mem
set_option maxRecDepth 100000 in
theorem inR_new (l : Cells) (h : InR l) : InR (newL l) := by
  have : ∀ (l c : Cells), InR c → InR l → InR (l.foldl (fun c p => putL c p.1 p.2) c) := by
    intro l
    induction l with
    | nil => intro c hc _; exact hc
    | cons p r ih =>
      intro c hc hl
      have hp := hl p (by simp)
      exact ih _ (hc.put hp.1 hp.2.1 hp.2.2.1 hp.2.2.2) (fun q hq => hl q (by simp [hq]))
  exact this l [] inR_nil h
set_option maxRecDepth 100000 in
theorem storeN_step (c : Cells) (a v : Int) (n : Nat) : storeN c a v (n + 1) = storeN (putL c (w32 a) (v % 256)) (a + 1) (v / 256) n := rfl
set_option maxRecDepth 100000 in
theorem newL_snoc (l : Cells) (p : Int × Int) : newL (l ++ [p]) = putL (newL l) p.1 p.2 := by simp [newL, List.foldl_append]
set_option maxRecDepth 100000 in
theorem length_new_le (l : Cells) : (newL l).length ≤ l.length := by
  have : ∀ (l c : Cells), (l.foldl (fun c p => putL c p.1 p.2) c).length ≤ c.length + l.length := by
    intro l
    induction l with
    | nil => intro c; simp
    | cons p r ih =>
      intro c
      have h1 := ih (putL c p.1 p.2)
      have h2 := length_put_le c p.1 p.2
      simp only [List.foldl_cons, List.length_cons]
      omega
  have := this l []
  unfold newL
  simpa using this
end Go.Mem
namespace Go.Mem
end Go.Mem
/- Memory's keys: a place reads as a key; a map of places that reads as cells. -/
namespace Go.Proofs.YthbdmlcbdibiiaaGreatDoor
open Go.RowKit Go.Mem Go.Maps
set_option maxRecDepth 100000 in
theorem laidOut : laidOutB Tryz.prog = true := by kernel_rfl
set_option maxRecDepth 100000 in
theorem placeRow : (109 : TypeId) < Tryz.prog.types.size := of_decide_eq_true (by kernel_rfl)
set_option maxRecDepth 100000 in
theorem placeWide : (match Tryz.prog.underlying 109 with | some (.array _ _) | some (.struct _) => true | _ => false) = true := by rw [Tryz.underlying109]
set_option maxRecDepth 100000 in
theorem placeLaw : Keyed Tryz.prog 109 := Keyed.of_law (deep_law_laid laidOut (m := 2) (by omega) placeRow (by kernel_rfl) placeWide)
set_option maxRecDepth 100000 in
theorem placeCells : Tryz.prog.cellsOf 109 = 2 := by kernel_rfl
set_option maxRecDepth 100000 in
theorem u32Cells : Tryz.prog.cellsOf 24 = 1 := by kernel_rfl
set_option maxRecDepth 100000 in
theorem placeKey : Tryz.prog.keyType 109 = true := by kernel_rfl
set_option maxRecDepth 100000 in
theorem zeroU8 (w : World) : (zeroValue 5).run Tryz.prog w = .ok (.int .u8 0) w := by kernel_rfl
def pv (x y : Int) : Value := .agg #[.int .u32 x, .int .u32 y]
def plit (x y : Int) : Lit := .string (keyBytes [.int .u32 x, .int .u32 y])
set_option maxRecDepth 100000 in
theorem wf_u32 {x : Int} (h0 : 0 ≤ x) (h1 : x < 4294967296) : (Lit.int .u32 x).wf = true := WalkArith.wf_u32 ⟨h0, by omega⟩
set_option maxRecDepth 100000 in
theorem keyLits_u32 (n : Nat) (x : Int) (h : (Lit.int .u32 x).wf = true) : Tryz.prog.keyLits (n + 1) 24 [.int .u32 x] = some [.int .u32 x] := by
  unfold Program.keyLits
  rw [Tryz.underlying24]
  simp [h]
set_option maxRecDepth 100000 in
theorem keyLits_place (n : Nat) (x y : Int) (hx : (Lit.int .u32 x).wf = true) (hy : (Lit.int .u32 y).wf = true) : Tryz.prog.keyLits (n + 2) 109 [.int .u32 x, .int .u32 y] = some [.int .u32 x, .int .u32 y] := by
  unfold Program.keyLits
  rw [Tryz.underlying109]
  simp [placeCells, u32Cells, keyLits_u32 _ _ hx, keyLits_u32 _ _ hy]
set_option maxRecDepth 100000 in
theorem keyOf_place (x y : Int) (hx : (Lit.int .u32 x).wf = true) (hy : (Lit.int .u32 y).wf = true) : keyOf Tryz.prog 109 (pv x y) = some (plit x y) := by
  have hf : (pv x y).formed Tryz.prog 109 = true := by simp [pv, Value.formed, Tryz.underlying109, placeCells]
  have hs : ∃ n, Tryz.prog.types.size + 1 = n + 2 := ⟨Tryz.prog.types.size - 1, by have h : 0 < Tryz.prog.types.size := Nat.lt_of_le_of_lt (Nat.zero_le _) placeRow; omega⟩
  obtain ⟨n, hn⟩ := hs
  unfold keyOf
  rw [Tryz.underlying109]
  simp only [placeKey, hf, Bool.and_self, if_true, hn]
  show (Program.keyLits _ _ _ [.int .u32 x, .int .u32 y]).map _ = _
  rw [keyLits_place n x y hx hy]
  rfl
set_option maxRecDepth 100000 in
theorem keyLits_u32_inv (n : Nat) (v : Value) (L : List Lit) (h : Tryz.prog.keyLits (n + 1) 24 [v] = some L) : ∃ x, v = .int .u32 x := by
  unfold Program.keyLits at h
  rw [Tryz.underlying24] at h
  cases v <;> simp at h
  exact ⟨_, by rw [h.1.1]⟩
set_option maxRecDepth 100000 in
theorem place_inv {key : Value} {k : Lit} (h : keyOf Tryz.prog 109 key = some k) : ∃ p : Int × Int, key = pv p.1 p.2 := by
  obtain ⟨xs, L, rfl, h1, _⟩ := keyOf_top placeWide h
  obtain ⟨n, hn⟩ : ∃ n, Tryz.prog.types.size + 1 = n + 2 := ⟨Tryz.prog.types.size - 1, by have h : 0 < Tryz.prog.types.size := Nat.lt_of_le_of_lt (Nat.zero_le _) placeRow; omega⟩
  rw [hn] at h1
  obtain ⟨l⟩ := xs
  unfold Program.keyLits at h1
  rw [Tryz.underlying109] at h1
  simp only [placeCells] at h1
  split at h1
  · rename_i hc
    match l, hc.1 with
    | [c0, c1], _ =>
      simp [u32Cells] at h1
      cases h2 : Tryz.prog.keyLits (n + 1) 24 [c0] with
      | none => simp [h2] at h1
      | some L0 =>
        cases h3 : Tryz.prog.keyLits (n + 1) 24 [c1] with
        | none => simp [h2, h3] at h1
        | some L1 =>
          obtain ⟨x, rfl⟩ := keyLits_u32_inv n c0 L0 h2
          obtain ⟨y, rfl⟩ := keyLits_u32_inv n c1 L1 h3
          exact ⟨(x, y), rfl⟩
  · cases h1
end Go.Proofs.YthbdmlcbdibiiaaGreatDoor
/- A map of places that reads as cells: put, delete, look up. -/
namespace Go.Proofs.YthbdmlcbdibiiaaGreatDoor
open Go.RowKit Go.Mem Go.Maps
def kl (a : Int) : Lit := plit (a / 4) (a % 4)
def av (a : Int) : Value := pv (a / 4) (a % 4)
set_option maxRecDepth 100000 in
theorem keyOf_at {a : Int} (h0 : 0 ≤ a) (h1 : a < 4294967296) : keyOf Tryz.prog 109 (av a) = some (kl a) := keyOf_place _ _ (wf_u32 (by omega) (by omega)) (wf_u32 (by omega) (by omega))
set_option maxRecDepth 100000 in
theorem kl_inj {a b : Int} (a0 : 0 ≤ a) (a1 : a < 4294967296) (b0 : 0 ≤ b) (b1 : b < 4294967296) (h : kl a = kl b) : a = b := by
  have e := placeLaw.inj (keyOf_at a0 a1) (h ▸ keyOf_at b0 b1)
  simp [av, pv] at e
  omega
set_option maxRecDepth 100000 in
theorem kl_key {a : Int} (h0 : 0 ≤ a) (h1 : a < 4294967296) : WideAt.IsKeyLit (kl a) := placeLaw.key (keyOf_at h0 h1)
structure MapIs (D : DataW Unit) (c : Cells) : Prop where
  canon : Canon c
  inr : InR c
  tidy : Tidy D
  has_ : ∀ a, 0 ≤ a → a < 4294967296 → Maps.has D (kl a) = !(getL c a == 0)
  val : ∀ a, 0 ≤ a → a < 4294967296 → D.atKey (kl a) (.lit (.int .u8 0)) = .lit (.int .u8 (getL c a))
  keys : ∀ k, Maps.has D k = true → ∃ a, 0 ≤ a ∧ a < 4294967296 ∧ k = kl a
  size_ : Maps.size D = c.length
set_option maxRecDepth 100000 in
theorem mapIs_nil : MapIs (.map []) [] where
  canon := canon_nil
  inr := inR_nil
  tidy := tidy_empty
  has_ _ _ _ := rfl
  val _ _ _ := rfl
  keys _ h := by cases h
  size_ := rfl
set_option maxRecDepth 100000 in
theorem MapIs.put {D : DataW Unit} {c : Cells} (h : MapIs D c) {a b : Int} (h0 : 0 ≤ a) (h1 : a < 4294967296) (hb : b ≠ 0) (b0 : 0 ≤ b) (b1 : b < 256) :
    MapIs (D.put (kl a) (.lit (.int .u8 b))) (putL c a b) where
  canon := canon_put h.canon a b
  inr := h.inr.put h0 h1 b0 b1
  tidy := h.tidy.put (kl_key h0 h1) _
  has_ x x0 x1 := by
    rw [getL_put]
    by_cases e : x = a
    · subst e
      rw [has_put_same h.tidy.isMap (kl_key h0 h1), if_pos rfl]
      simp [hb]
    · rw [has_put_other (fun k => e (kl_inj x0 x1 h0 h1 k)), if_neg e]
      exact h.has_ x x0 x1
  val x x0 x1 := by
    rw [getL_put]
    by_cases e : x = a
    · subst e
      rw [atKey_put_same h.tidy.isMap (kl_key h0 h1), if_pos rfl]
    · rw [atKey_put_other (fun k => e (kl_inj x0 x1 h0 h1 k)), if_neg e]
      exact h.val x x0 x1
  keys k hk := by
    by_cases e : k = kl a
    · exact ⟨a, h0, h1, e⟩
    · rw [has_put_other e] at hk
      exact h.keys k hk
  size_ := by
    rw [size_put h.tidy, h.has_ a h0 h1, length_put h.canon a b hb, h.size_]
    by_cases e : getL c a = 0 <;> simp [e]
set_option maxRecDepth 100000 in
theorem MapIs.del {D : DataW Unit} {c : Cells} (h : MapIs D c) {a : Int} (h0 : 0 ≤ a) (h1 : a < 4294967296) : MapIs (D.del (kl a)) (putL c a 0) where
  canon := canon_put h.canon a 0
  inr := h.inr.put h0 h1 (by omega) (by omega)
  tidy := h.tidy.del _
  has_ x x0 x1 := by
    rw [getL_put]
    by_cases e : x = a
    · subst e
      rw [has_del_same, if_pos rfl]
      rfl
    · rw [has_del_other (fun k => e (kl_inj x0 x1 h0 h1 k)), if_neg e]
      exact h.has_ x x0 x1
  val x x0 x1 := by
    rw [getL_put]
    by_cases e : x = a
    · subst e
      rw [atKey_del_same, if_pos rfl]
    · rw [atKey_del_other (fun k => e (kl_inj x0 x1 h0 h1 k)), if_neg e]
      exact h.val x x0 x1
  keys k hk := by
    by_cases e : k = kl a
    · subst e; rw [has_del_same] at hk; cases hk
    · rw [has_del_other e] at hk
      exact h.keys k hk
  size_ := by
    have k1 := size_del (k := kl a) h.tidy
    have k2 := length_del h.canon a
    rw [h.has_ a h0 h1, h.size_] at k1
    by_cases e : getL c a = 0
    · simp [e] at k1 k2; omega
    · simp [e] at k1 k2; omega
noncomputable def elemR : Value → Option (DataW Unit × List MemPlace) := plainElem Tryz.prog 5
def MemAt (w : World) (b bm : Nat) (c : Cells) : Prop :=
  w.cell? ⟨b, 0, none⟩ = some (.map (some bm)) ∧ ∃ D, w.ownsMap Tryz.prog 109 elemR bm c.length D ∧ MapIs D c
set_option maxRecDepth 100000 in
theorem tight {P : Program} {k : TypeId} {R : Value → Option (DataW Unit × List MemPlace)} {w : World} {b n : Nat} {D : DataW Unit} (h : w.ownsMap P k R b n D) : w.ownsMap P k R b (Maps.size D) D := by
  obtain ⟨es, clock, hb, F, hs, rfl⟩ := h
  exact ⟨es, clock, hb, F, by simp [Maps.size, length_sorted], rfl⟩
set_option maxRecDepth 100000 in
theorem MemAt.is {w : World} {b bm : Nat} {c : Cells} (h : MemAt w b bm c) : Canon c ∧ InR c := by
  obtain ⟨_, D, _, hd⟩ := h
  exact ⟨hd.canon, hd.inr⟩
set_option maxRecDepth 100000 in
theorem MemAt.ne {w : World} {b bm : Nat} {c : Cells} (h : MemAt w b bm c) : b ≠ bm := by
  obtain ⟨hc, D, ⟨es, clock, hb, _⟩, _⟩ := h
  rintro rfl
  simp [World.cell?, hb] at hc
set_option maxRecDepth 100000 in
theorem MemAt.lt {w : World} {b bm : Nat} {c : Cells} (h : MemAt w b bm c) : b < w.heap.size ∧ bm < w.heap.size := by
  obtain ⟨hc, D, ho, _⟩ := h
  exact ⟨World.block_lt_of_cell? w _ hc, ho.lt⟩
set_option maxRecDepth 100000 in
theorem MemAt.kept {w w' : World} {b bm : Nat} {c : Cells} (h : MemAt w b bm c) {row : Option Nat} (hg : w.grownBy w' row) (h1 : some b ≠ row) (h2 : some bm ≠ row) : MemAt w' b bm c := by
  have hl := h.lt
  obtain ⟨hc, D, ho, hd⟩ := h
  exact ⟨by rw [World.cell?_of_block (hg.block b hl.1 h1)]; exact hc, D, ho.kept hg h2, hd⟩
set_option maxRecDepth 100000 in
theorem MemAt.below {w w' : World} {b bm : Nat} {c : Cells} (h : MemAt w b bm c) {B : Nat} (hb : Below B w w') (h1 : b < B) (h2 : bm < B) : MemAt w' b bm c := by
  obtain ⟨hc, D, ⟨es, clock, hm, r⟩, hd⟩ := h
  exact ⟨by rw [hb.cell (p := ⟨b, 0, none⟩) h1]; exact hc, D, ⟨es, clock, (hb.block bm h2).trans hm, r⟩, hd⟩
set_option maxRecDepth 100000 in
theorem MemAt.alloc {w : World} {b bm : Nat} {c : Cells} (h : MemAt w b bm c) (o : Obj) : MemAt (w.alloc o) b bm c := h.kept (World.grownBy_alloc w o none) (by simp) (by simp)
set_option maxRecDepth 100000 in
theorem MemAt.drew {w : World} {b bm : Nat} {c : Cells} (h : MemAt w b bm c) : MemAt w.drew b bm c := h
end Go.Proofs.YthbdmlcbdibiiaaGreatDoor
/- Slices of cells as they are read; the reference's 'Get'. -/
namespace Go.Proofs.YthbdmlcbdibiiaaGreatDoor
open Go.RowKit Go.Mem
def ClAt (w : World) (B : Nat) (A : Option Addr) (c : Cells) : Prop :=
  c ≠ [] → ∃ g off, A = some ⟨g, off, none⟩ ∧ g < B ∧ ∀ (i : Nat) (p : Int × Int), c[i]? = some p → w.cell? ⟨g, off + i * 2, none⟩ = some (.int .u32 p.1) ∧ w.cell? ⟨g, off + i * 2 + 1, none⟩ = some (.int .u8 p.2)
set_option maxRecDepth 100000 in
theorem ClAt.nil (w : World) (B : Nat) (A : Option Addr) : ClAt w B A [] := fun h => absurd rfl h
set_option maxRecDepth 100000 in
theorem ClAt.keep {w w' : World} {B : Nat} {A : Option Addr} {c : Cells} (h : ClAt w B A c) (hk : ∀ p : Addr, p.block < B → ∀ v, w.cell? p = some v → w'.cell? p = some v) : ClAt w' B A c := by
  intro hn
  obtain ⟨g, off, e, hb, hc⟩ := h hn
  exact ⟨g, off, e, hb, fun i p hp => ⟨hk _ hb _ (hc i p hp).1, hk _ hb _ (hc i p hp).2⟩⟩
set_option maxRecDepth 100000 in
theorem ClAt.below {w w' : World} {B B' : Nat} {A : Option Addr} {c : Cells} (h : ClAt w B A c) (hb : Below B' w w') (hB : B ≤ B') : ClAt w' B A c := h.keep fun _ hp _ e => (hb.cell (by omega)).trans e
set_option maxRecDepth 100000 in
theorem ClAt.more {w : World} {B B' : Nat} {A : Option Addr} {c : Cells} (h : ClAt w B A c) (hB : B ≤ B') : ClAt w B' A c := by
  intro hn
  obtain ⟨g, off, e, hb, hc⟩ := h hn
  exact ⟨g, off, e, by omega, hc⟩
set_option maxRecDepth 100000 in
theorem ClAt.map {w w' : World} {B bm : Nat} {A : Option Addr} {c : Cells} (h : ClAt w B A c) (hg : w.grownBy w' (some bm)) (hm : ∃ es clock, w.heap[bm]? = some (.map es clock)) : ClAt w' B A c := h.keep fun p _ v e => by
  obtain ⟨es, clock, hm⟩ := hm
  have hne : p.block ≠ bm := by
    rintro rfl
    simp [World.cell?, hm] at e
  rw [World.cell?_of_block (hg.block p.block (World.block_lt_of_cell? w _ e) (by simpa using hne))]
  exact e
set_option maxRecDepth 100000 in
theorem ClAt.at_ {w : World} {B : Nat} {A : Option Addr} {c : Cells} (h : ClAt w B A c) {k : Nat} (hk : k < c.length) :
    ∃ g off, A = some ⟨g, off, none⟩ ∧ g < B ∧ w.cell? ⟨g, off + k * 2, none⟩ = some (.int .u32 (c[k]).1) ∧ w.cell? ⟨g, off + k * 2 + 1, none⟩ = some (.int .u8 (c[k]).2) := by
  obtain ⟨g, off, e, hb, hc⟩ := h (by intro e; subst e; simp at hk)
  have := hc k c[k] (List.getElem?_eq_getElem hk)
  exact ⟨g, off, e, hb, this.1, this.2⟩
set_option maxRecDepth 100000 in
set_option maxHeartbeats 1000000 in
theorem rGet_any (c : Cells) (A : Option Addr) (cap : Nat) (x : Int) (w : World) (h : ClAt w w.heap.size A c) (hl : c.length ≤ maxLen) :
    Calls Tryz.prog 131 #[.slice A c.length cap, .int .u32 x] w fun e w' => e = .returned (.int .u8 (getL c x)) ∧ w = w' := by
  unfold maxLen at hl
  go_enter Tryz.func131, Tryz.ntmps131
  go_wp2
  go_loop [5] (fun i => ∃ k : Nat, k ≤ c.length ∧ i = .int .i64 k ∧ getL (c.drop k) x = getL c x) (fun i => c.length - (intOf i).toNat)
  case atStart => exact ⟨0, Nat.zero_le _, rfl, rfl⟩
  case round =>
    obtain ⟨k, hk, rfl, hg⟩ := hrel
    have HG := Lib.hid hg
    clear hg
    by_cases hlt : k < c.length
    · obtain ⟨g, off, rfl, hb, h1, h2⟩ := h.at_ hlt
      have hd := List.drop_eq_getElem_cons hlt
      have HD := Lib.hid hd
      clear hd
      generalize hp : c[k] = p at *
      obtain ⟨pa, pb⟩ := p
      simp only at h1 h2
      by_cases he : pa = x
      · subst he
        have hg : getL c pa = pb := by rw [← HG.out, HD.out, getL, if_pos rfl]
        have HG := Lib.hid hg
        clear hg hp
        go_wp2
        go_ret
        exact ⟨by rw [HG.out]; rfl, rfl⟩
      · have hg : getL (c.drop (k + 1)) x = getL c x := by rw [← HG.out, HD.out, getL, if_neg he]
        have HG2 := Lib.hid hg
        clear hg hp
        go_wp2
        go_round
        case rel => exact ⟨k + 1, by omega, by go_num, HG2.out⟩
        case measure => simp [intOf]; omega
    · have e : k = c.length := by omega
      subst e
      have hg : getL c x = 0 := by rw [← HG.out, List.drop_length]; rfl
      rw [hg]
      go_wp2
      go_ret
      exact ⟨rfl, rfl⟩
end Go.Proofs.YthbdmlcbdibiiaaGreatDoor
/- The reference's 'Put', 'New', 'Store', 'Same'. -/
namespace Go.Proofs.YthbdmlcbdibiiaaGreatDoor
open Go.RowKit Go.Mem
set_option maxRecDepth 100000 in
theorem cellInfo : (Tryz.prog.info? 71).map (fun i => (i.zero, i.size, i.bytes)) = some (some (.agg #[.int .u32 0, .int .u8 0]), 2, 8) := by kernel_rfl
def encC (c : Cells) : List Value := c.flatMap fun p => [.int .u32 p.1, .int .u8 p.2]
set_option maxRecDepth 100000 in
theorem encC_snoc (c : Cells) (a b : Int) : encC (c ++ [(a, b)]) = encC c ++ [.int .u32 a, .int .u8 b] := by simp [encC]
set_option maxRecDepth 100000 in
theorem encC_at : ∀ (c : Cells) (i : Nat) (p : Int × Int), c[i]? = some p → (encC c)[i * 2]? = some (.int .u32 p.1) ∧ (encC c)[i * 2 + 1]? = some (.int .u8 p.2)
  | [], i, p, h => by simp at h
  | q :: r, 0, p, h => by
    simp at h
    subst h
    exact ⟨rfl, rfl⟩
  | q :: r, i + 1, p, h => by
    have ih := encC_at r i p (by simpa using h)
    have e1 : (i + 1) * 2 = i * 2 + 1 + 1 := by omega
    rw [e1]
    exact ih
set_option maxRecDepth 100000 in
theorem ClAt.of_own {w : World} {base : Nat} {A : Option Addr} {cap : Nat} {c : Cells} {e : TypeId} (h : w.ownsRow base e 2 (.slice A c.length cap) c.length (encC c)) : ClAt w w.heap.size A c := by
  intro hn
  rcases h.2 with ⟨hv, h0⟩ | ⟨g, cap', cur, hv, hb, hh, _, _, hs, ht⟩
  · exact absurd (List.eq_nil_of_length_eq_zero h0) hn
  · have hA : A = some ⟨g, 0, none⟩ := by injection hv
    subst hA
    refine ⟨g, 0, rfl, (Array.getElem?_eq_some_iff.1 hh).1, fun i p hp => ?_⟩
    obtain ⟨h1, h2⟩ := encC_at c i p hp
    have k1 := h.cells (g := g) rfl _ _ h1
    have k2 := h.cells (g := g) rfl _ _ h2
    have z : ∀ n, (⟨g, 0, none⟩ : Addr).add n = ⟨g, 0 + n, none⟩ := fun n => by unfold Addr.add; split <;> simp_all
    rw [z] at k1 k2
    exact ⟨k1, by rw [Nat.add_assoc]; exact k2⟩
set_option maxRecDepth 100000 in
theorem two_new (w : World) (t : TypeId) (x y : Value) : ∀ (j : Nat) (u : Value), [x, y][j]? = some u → (w.alloc (.cells #[x, y] t)).cell? ((⟨w.heap.size, 0, none⟩ : Addr).add j) = some u :=
  World.news_of_block (cs := #[x, y]) (t := t) (fr := (0, 0)) (heap_alloc_new w _)
set_option maxRecDepth 100000 in
theorem app_cell (w0 : World) {ops : Array Oper} {rest : List Oper} {o : Oper} {a : Act} {Q : Exit → Act → World → Prop} (hgd : o.guard = none) (s x : Operand)
    (ho : o.op = .call { callee := .builtin .append, args := #[s, x], argTypes := #[28, 28] }) (base : Nat) (hbase : base ≤ w0.heap.size) (c : Cells) (pa pb : Int) (hlen : c.length ≤ 5000000000)
    (v : Value) (hs : a.eval s = v) (hown : w0.ownsRow base 71 2 v c.length (encC c)) (g : Nat) (hx : a.eval x = .slice (some ⟨g, 0, none⟩) 1 1) (hg : g = w0.heap.size)
    (h : ∀ v' w', w'.ownsRow base 71 2 v' (c ++ [(pa, pb)]).length (encC (c ++ [(pa, pb)])) → Below base w0 w' → wpList Tryz.prog ops Q rest (a.put o.dst v') w') :
    wpList Tryz.prog ops Q (o :: rest) a (w0.alloc (.cells #[.int .u32 pa, .int .u8 pb] 71)) := by
  subst hg
  obtain ⟨i0, hi0, hz0, hz1, hz2⟩ := info_parts cellInfo
  refine wpList_append_own _ hgd s x 28 ho base 71 i0 _ 2 8 Tryz.underlying28 hi0 hz0 hz1 hz2 rfl (by decide) v c.length (encC c) hs (hown.alloc _) ⟨w0.heap.size, 0, none⟩ 1 1 [.int .u32 pa, .int .u8 pb] hx rfl (two_new _ _ _ _)
    (fun u hu => by simp at hu; rcases hu with rfl | rfl <;> rfl) (by unfold maxLen; omega) (by omega) (by simp; omega) ?_
  intro v' w' hown' hgrow _
  refine h v' w' (by rw [encC_snoc]; simpa using hown') ?_
  exact ((Below.refl base w0).alloc hbase _).grown hgrow (by simp; omega) (fun j hj => (hown.lt _ hj).1)
set_option maxRecDepth 100000 in
set_option maxHeartbeats 2000000 in
theorem rPut_go (c : Cells) (A : Option Addr) (cap : Nat) (a b : Int) (D0 : Bool) (w : World) (h : ClAt w w.heap.size A c) (hl : c.length ≤ 4294967296) (hD : (b == 0) = D0) :
    Calls Tryz.prog 30 #[.slice A c.length cap, .int .u32 a, .int .u8 b] w fun e w' => ∃ v, e = .returned v ∧ w'.ownsRow w.heap.size 71 2 v (putG a b D0 c).length (encC (putG a b D0 c)) ∧ Below w.heap.size w w' := by
  go_enter Tryz.func30, Tryz.ntmps30
  go_wp2
  go_loopw [7, 8, 9] (fun o d k wr => ∃ (i : Nat) (c' : Cells) (D : Bool), i ≤ c.length ∧ k = .int .i64 i ∧ d = .bool D ∧ wr.ownsRow w.heap.size 71 2 o c'.length (encC c') ∧ Hid (c' ++ putG a b D (c.drop i) = putG a b D0 c) ∧ c'.length ≤ i + 1 ∧ (D = false → c'.length ≤ i) ∧ Below w.heap.size w wr) (fun _ _ k _ => c.length - (intOf k).toNat)
  case atStart => exact ⟨0, [], D0, by omega, rfl, rfl, World.ownsRow_nil _ _ _ _, Lib.hid (by simp), by simp, by simp, Below.refl _ _⟩
  case round =>
    obtain ⟨i, c', D, hi, rfl, rfl, hown, HP, hlen, hlen2, hbr⟩ := hrel
    have hbs := hbr.size
    have hc5 : c'.length ≤ 5000000000 := by omega
    by_cases hlt : i < c.length
    · obtain ⟨g, off, rfl, hg, h1, h2⟩ := (h.below hbr (Nat.le_refl _)).at_ hlt
      have HD := Lib.hid (List.drop_eq_getElem_cons hlt)
      generalize hp : c[i] = p at *
      obtain ⟨pa, pb⟩ := p
      simp only at h1 h2
      clear hp
      have HS : Hid (putG a b D (c.drop i) = if D = false ∧ a < pa then (a, b) :: (if pa = a then putG a b true (c.drop (i + 1)) else (pa, pb) :: putG a b true (c.drop (i + 1))) else if pa = a then putG a b D (c.drop (i + 1)) else (pa, pb) :: putG a b D (c.drop (i + 1))) := Lib.hid (by rw [HD.out, putG])
      have far : ∀ (w1 : World), Below w.heap.size wr w1 → w1.cell? ⟨g, off + i * 2, none⟩ = some (.int .u32 pa) ∧ w1.cell? ⟨g, off + i * 2 + 1, none⟩ = some (.int .u8 pb) := fun w1 hb1 =>
        ⟨(hb1.cell (p := ⟨g, off + i * 2, none⟩) hg).trans h1, (hb1.cell (p := ⟨g, off + i * 2 + 1, none⟩) hg).trans h2⟩
      have FAR := Lib.hid far
      clear far
      by_cases hap : D = false ∧ a < pa
      · obtain ⟨rfl, hap⟩ := hap
        have hpa : ¬ pa = a := by omega
        have HN : Hid (c' ++ [(a, b)] ++ [(pa, pb)] ++ putG a b true (c.drop (i + 1)) = putG a b D0 c) := Lib.hid (by rw [← HP.out, HS.out, if_pos ⟨rfl, hap⟩, if_neg hpa]; simp)
        clear HP HS HD
        have hl1 := hlen2 rfl
        clear hlen2
        have hc6 : (c' ++ [(a, b)]).length ≤ 5000000000 := by simp; omega
        go_wp2_with (first
          | (at_builtin; refine app_cell wr rfl _ _ rfl w.heap.size hbs c' a b hc5 _ rfl ?_ _ rfl rfl ?_; exact hown; intro v1 w1 hown1 hb1; have hbs1 := Nat.le_trans hbs hb1.size; obtain ⟨f1, f2⟩ := FAR.out w1 hb1)
          | (at_builtin; refine app_cell w1 rfl _ _ rfl w.heap.size hbs1 (c' ++ [(a, b)]) pa pb hc6 _ rfl ?_ _ rfl rfl ?_; exact hown1; intro v2 w2 hown2 hb2))
        go_roundw
        case rel => exact ⟨i + 1, _, true, by omega, by go_num, rfl, hown2, HN, by simp; omega, by simp, (hbr.trans hb1).trans hb2⟩
        case measure => simp [intOf]; omega
      · by_cases hpa : pa = a
        · have HN : Hid (c' ++ putG a b D (c.drop (i + 1)) = putG a b D0 c) := Lib.hid (by rw [← HP.out, HS.out, if_neg hap, if_pos hpa])
          clear HP HS HD
          have hnl : D = false → ¬ a < pa := fun e k => hap ⟨e, k⟩
          subst hpa
          cases D
          · go_wp2
            go_roundw
            case rel => exact ⟨i + 1, c', false, by omega, by go_num, rfl, hown, HN, by omega, by have := hlen2 rfl; intro _; omega, hbr⟩
            case measure => simp [intOf]; omega
          · go_wp2
            go_roundw
            case rel => exact ⟨i + 1, c', true, by omega, by go_num, rfl, hown, HN, by omega, by simp, hbr⟩
            case measure => simp [intOf]; omega
        · have HN : Hid (c' ++ [(pa, pb)] ++ putG a b D (c.drop (i + 1)) = putG a b D0 c) := Lib.hid (by rw [← HP.out, HS.out, if_neg hap, if_neg hpa]; simp)
          clear HP HS HD
          cases D
          · have hnl : ¬ a < pa := fun k => hap ⟨rfl, k⟩
            have hl1 := hlen2 rfl
            clear hlen2 hap
            go_wp2_with (at_builtin; refine app_cell wr rfl _ _ rfl w.heap.size hbs c' pa pb hc5 _ rfl ?_ _ rfl rfl ?_; exact hown; intro v1 w1 hown1 hb1)
            go_roundw
            case rel => exact ⟨i + 1, _, false, by omega, by go_num, rfl, hown1, HN, by simp; omega, by simp; omega, hbr.trans hb1⟩
            case measure => simp [intOf]; omega
          · clear hlen2 hap
            go_wp2_with (at_builtin; refine app_cell wr rfl _ _ rfl w.heap.size hbs c' pa pb hc5 _ rfl ?_ _ rfl rfl ?_; exact hown; intro v1 w1 hown1 hb1)
            go_roundw
            case rel => exact ⟨i + 1, _, true, by omega, by go_num, rfl, hown1, HN, by simp; omega, by simp, hbr.trans hb1⟩
            case measure => simp [intOf]; omega
    · have e : i = c.length := by omega
      subst e
      have HE : Hid (putG a b D0 c = c' ++ (if D then [] else [(a, b)])) := Lib.hid (by rw [← HP.out, List.drop_length]; rfl)
      clear HP
      cases D
      · go_wp2_with (at_builtin; refine app_cell wr rfl _ _ rfl w.heap.size hbs c' a b hc5 _ rfl ?_ _ rfl rfl ?_; exact hown; intro v1 w1 hown1 hb1)
        go_ret
        refine ⟨v1, rfl, ?_, hbr.trans hb1⟩
        rw [HE.out]
        exact hown1
      · go_wp2
        go_ret
        refine ⟨_, rfl, ?_, hbr⟩
        rw [HE.out]
        simpa using hown
end Go.Proofs.YthbdmlcbdibiiaaGreatDoor
/- Memory's 'of', 'set': what they do of a memory. -/
namespace Go.Proofs.YthbdmlcbdibiiaaGreatDoor
open Go.RowKit Go.Mem Go.Maps
set_option maxRecDepth 100000 in
theorem and3 (a : Int) (h0 : 0 ≤ a) (h1 : a < 4294967296) : bits .and .u32 a 3 = a % 4 := by
  rw [u32_and a 3 h0 h1 (by omega) (by omega)]
  have : a.toNat &&& (3 : Int).toNat = a.toNat % 4 := Nat.and_two_pow_sub_one_eq_mod a.toNat 2
  rw [this]
  omega
set_option maxRecDepth 100000 in
theorem of_any (a : Int) (w : World) (h0 : 0 ≤ a) (h1 : a < 4294967296) :
    Calls Tryz.prog 106 #[.int .u32 a] w fun e w' => e = .returned (av a) ∧ ∃ cs, w' = w.alloc (.cells cs 109) := by
  have hb := and3 a h0 h1
  go_enter Tryz.func106, Tryz.ntmps106
  go_wp2
  refine bodyPost_ret (v := .agg #[.int .u32 (a / 4), .int .u32 (a % 4)]) (by simp [results, Tryz.results106, go_sem]) rfl ⟨rfl, #[.int .u32 (a / 4), .int .u32 (a % 4)], rfl⟩
section
variable {H : Type} {P : Program} (w : World) {ops : Array Oper} {o : Oper} {a : Act} {K : Act → World → Prop} {Q : Exit → Act → World → Prop} {E : Prop}
set_option maxRecDepth 100000 in
theorem step_of_wp (hgd : o.guard = none) (h : Oper.wp P o a w K Q) : if Region.wanted o (yielded ops a.tmps) = true then Oper.wp P o a w K Q else E := by
  have hw : Region.wanted o (yielded ops a.tmps) = true := by simp [Region.wanted, hgd]
  rw [if_pos hw]
  exact h
set_option maxRecDepth 100000 in
theorem step_delete_own (hgd : o.guard = none) (m x : Operand) (t k : TypeId) (hop : o.op = Op.call { callee := Callee.builtin Builtin.delete, args := #[m, x], argTypes := #[t, k] })
    (e : TypeId) (hk : Keyed P k) (ht : P.underlying t = some (.map k e)) (R : Value → Option (DataW H × List MemPlace)) (b n : Nat) (D : DataW H)
    (hm : a.eval m = .map (some b)) (hown : w.ownsMap P k R b n D) (key : Value) (kl : Lit) (hx : a.eval x = key) (hkey : keyOf P k key = some kl)
    (h : ∀ w', w'.ownsMap P k R b n (D.del kl) → w.grownBy w' (some b) → K (a.put o.dst (.tuple #[])) w') :
    if Region.wanted o (yielded ops a.tmps) = true then Oper.wp P o a w K Q else E := by
  refine step_of_wp w hgd ?_
  obtain ⟨w', hrun, r1, r2⟩ := hown.drop hk ht hkey o.type
  unfold Oper.wp
  simp [execOp, hop, resolve, invoke, builtin, hm, hx, hrun, Result.andThen]
  exact h w' r1 r2.grown
end
set_option maxRecDepth 100000 in
theorem elemR_int {v : Int} (h0 : 0 ≤ v) (h1 : v < 256) : elemR (.int .u8 v) = some (.lit (.int .u8 v), []) := plainElem_int Tryz.underlying5 (WalkArith.wf_u8 ⟨h0, by omega⟩)
set_option maxRecDepth 100000 in
theorem grownBy_far {w w' : World} {row : Option Nat} {p : Addr} {v : Value} (h : w.cell? p = some v) (hg : w.grownBy w' row) (hne : some p.block ≠ row) : w'.cell? p = some v := by
  rw [World.cell?_of_block (hg.block p.block (World.block_lt_of_cell? w _ h) hne)]
  exact h
set_option maxRecDepth 100000 in
theorem grown_after {w w' : World} {o : Obj} {row : Option Nat} (h : (w.alloc o).drew.grownBy w' row) : w.grownBy w' row :=
  ⟨h.os, h.tape, h.output, by have := h.size; simp at this; omega, fun k hk hr => (h.block k (by simp; omega) hr).trans (Below.heap_alloc w o k hk)⟩
set_option maxRecDepth 100000 in
set_option maxHeartbeats 1000000 in
theorem set_zero (w : World) (b bm : Nat) (n : Nat) (D : DataW Unit) (a : Int) (h0 : 0 ≤ a) (h1 : a < 4294967296) (hne : b ≠ bm)
    (hc : w.cell? ⟨b, 0, none⟩ = some (.map (some bm))) (ho : w.ownsMap Tryz.prog 109 elemR bm n D) :
    Calls Tryz.prog 63 #[.pointer (some ⟨b, 0, none⟩), .int .u32 a, .int .u8 0] w fun e w' => e = .returned (.tuple #[]) ∧ w'.ownsMap Tryz.prog 109 elemR bm n (D.del (kl a)) ∧ w.grownBy w' (some bm) := by
  have hkey := keyOf_at h0 h1
  have hlt := World.block_lt_of_cell? w _ hc
  go_enter Tryz.func63, Tryz.ntmps63
  go_wp2_with fail
  go_region_held3 (fun w' => w'.cell? ⟨b, 0, none⟩ = some (.map (some bm)))
    (first
      | go_keep
      | (exact grownBy_far (by assumption) hgrow1 (by simpa using hne))
      | (trace_state; fail))
    (first
      | (go_at_call 106; refine (of_any a _ h0 h1).mono ?_; rintro e w' ⟨rfl, cs, rfl⟩)
      | (refine step_delete_own _ (by rfl) _ _ _ _ (by rfl) 5 placeLaw Tryz.underlying99 elemR bm n D (by rfl) (by first | exact ho | exact World.ownsMap.drew (World.ownsMap.alloc ho _)) _ _ (by rfl) hkey ?_; intro w1 hown1 hgrow1))
  go_wp2
  refine bodyPost_ret (results_none rfl _ _ _) rfl ?_
  exact ⟨rfl, hown1, grown_after hgrow1⟩
set_option maxRecDepth 100000 in
set_option maxHeartbeats 1000000 in
theorem set_some (w : World) (b bm : Nat) (n : Nat) (D : DataW Unit) (a v : Int) (h0 : 0 ≤ a) (h1 : a < 4294967296) (hv : v ≠ 0) (v0 : 0 ≤ v) (v1 : v < 256) (hne : b ≠ bm) (hn : n < maxLen)
    (hc : w.cell? ⟨b, 0, none⟩ = some (.map (some bm))) (ho : w.ownsMap Tryz.prog 109 elemR bm n D) :
    Calls Tryz.prog 63 #[.pointer (some ⟨b, 0, none⟩), .int .u32 a, .int .u8 v] w fun e w' => e = .returned (.tuple #[]) ∧ w'.ownsMap Tryz.prog 109 elemR bm (n + 1) (D.put (kl a) (.lit (.int .u8 v))) ∧ w.grownBy w' (some bm) := by
  have hkey := keyOf_at h0 h1
  have hel := elemR_int v0 v1
  have hlt := World.block_lt_of_cell? w _ hc
  obtain ⟨Wf, hW⟩ := Classical.axiomOfChoice fun o : Obj => World.ownsMap.store (World.ownsMap.drew (World.ownsMap.alloc ho o)) placeLaw Tryz.underlying99 hn hkey hel
  have hrun := fun o => (hW o).1
  have hcell : ∀ o, (Wf o).cell? ⟨b, 0, none⟩ = some (.map (some bm)) := fun o =>
    grownBy_far (w := (w.alloc o).drew) (by rw [show (w.alloc o).drew.cell? ⟨b, 0, none⟩ = (w.alloc o).cell? ⟨b, 0, none⟩ from rfl, World.cell?_alloc_lt w o _ hlt]; exact hc) (hW o).2.2.grown (by simpa using hne)
  have HW := Lib.hid hW
  clear hW
  go_enter Tryz.func63, Tryz.ntmps63
  go_wp2_with fail
  go_region_held3 (fun w' => w'.cell? ⟨b, 0, none⟩ = some (.map (some bm)))
    (first
      | go_keep
      | (exact hcell _))
    (first
      | (go_at_call 106; refine (of_any a _ h0 h1).mono ?_; rintro e w' ⟨rfl, cs, rfl⟩))
  go_wp2
  refine bodyPost_end (results_none rfl _ _ _) rfl ?_
  exact ⟨rfl, (HW.out _).2.1, grown_after (HW.out _).2.2.grown⟩
set_option maxRecDepth 100000 in
theorem set_any (w : World) (b bm : Nat) (c : Cells) (a v : Int) (h0 : 0 ≤ a) (h1 : a < 4294967296) (v0 : 0 ≤ v) (v1 : v < 256) (hm : MemAt w b bm c) :
    Calls Tryz.prog 63 #[.pointer (some ⟨b, 0, none⟩), .int .u32 a, .int .u8 v] w fun e w' => e = .returned (.tuple #[]) ∧ MemAt w' b bm (putL c a v) ∧ w.grownBy w' (some bm) := by
  have hne := hm.ne
  have hle := length_le hm.is.1 hm.is.2
  obtain ⟨hc, D, ho, hd⟩ := hm
  have lift : ∀ {w' : World} {n : Nat} {D' : DataW Unit}, MapIs D' (putL c a v) → w'.ownsMap Tryz.prog 109 elemR bm n D' → w.grownBy w' (some bm) → MemAt w' b bm (putL c a v) := by
    intro w' n D' hd' ho' hg
    refine ⟨grownBy_far hc hg (by simpa using hne), D', ?_, hd'⟩
    rw [← hd'.size_]
    exact tight ho'
  by_cases hv : v = 0
  · subst hv
    exact (set_zero w b bm _ D a h0 h1 hne hc ho).mono fun e w' ⟨he, ho', hg⟩ => ⟨he, lift (hd.del h0 h1) ho' hg, hg⟩
  · exact (set_some w b bm _ D a v h0 h1 hv v0 v1 hne (by unfold maxLen; omega) hc ho).mono fun e w' ⟨he, ho', hg⟩ => ⟨he, lift (hd.put h0 h1 hv v0 v1) ho' hg, hg⟩
end Go.Proofs.YthbdmlcbdibiiaaGreatDoor
/- Memory's 'Load', 'Store', 'Len', 'New'. -/
namespace Go.Proofs.YthbdmlcbdibiiaaGreatDoor
open Go.RowKit Go.Mem Go.Maps
set_option maxRecDepth 100000 in
theorem size_any (n : Int) (w : World) : Calls Tryz.prog 152 #[.int .i64 n] w fun e w' => e = .returned (.bool (sizeB n)) ∧ w = w' := by
  unfold sizeB
  by_cases h1 : n = 1
  · subst h1
    go_enter Tryz.func152, Tryz.ntmps152
    go_wp2
    go_ret
    exact ⟨rfl, rfl⟩
  · by_cases h2 : n = 2
    · subst h2
      go_enter Tryz.func152, Tryz.ntmps152
      go_wp2
      go_ret
      exact ⟨rfl, rfl⟩
    · by_cases h4 : n = 4
      · subst h4
        go_enter Tryz.func152, Tryz.ntmps152
        go_wp2
        go_ret
        exact ⟨rfl, rfl⟩
      · have e1 : (n == 1) = false := by simpa using h1
        have e2 : (n == 2) = false := by simpa using h2
        have e4 : (n == 4) = false := by simpa using h4
        rw [e1, e2, e4]
        go_enter Tryz.func152, Tryz.ntmps152
        go_wp2
        go_ret
        exact ⟨rfl, rfl⟩
set_option maxRecDepth 100000 in
theorem wrap_u32 (x : Int) : IntKind.u32.wrap x = w32 x := rfl
set_option maxRecDepth 100000 in
theorem or_step (V g : Int) (i : Nat) (hi : i < 4) (h0 : 0 ≤ V) (h1 : V < 256 ^ i) (g0 : 0 ≤ g) (g1 : g < 256) :
    bits .or .u32 V (IntKind.u32.wrap (IntKind.u32.wrap g * 2 ^ min (IntKind.u32.wrap (8 * i)).toNat 32)) = V + 256 ^ i * g := by
  have key : ∀ (k : Nat) (m : Int), m = 2 ^ k → 0 ≤ V → V < m → m * 256 ≤ 4294967296 → bits .or .u32 V (IntKind.u32.wrap (IntKind.u32.wrap g * m)) = V + m * g := by
    intro k m hm v0 v1 m2
    have hgw : IntKind.u32.wrap g = g := by rw [wrap_u32]; unfold w32; omega
    have hb : g * m < 4294967296 := by
      have := Int.mul_le_mul_of_nonneg_right (show g ≤ 255 by omega) (show 0 ≤ m by omega)
      omega
    have hb0 : 0 ≤ g * m := Int.mul_nonneg g0 (by omega)
    have hgm : IntKind.u32.wrap (g * m) = g * m := by rw [wrap_u32]; unfold w32; omega
    rw [hgw, hgm, u32_or V (g * m) v0 (by omega) hb0 hb]
    obtain ⟨v, rfl⟩ := Int.eq_ofNat_of_zero_le v0
    obtain ⟨y, rfl⟩ := Int.eq_ofNat_of_zero_le g0
    subst hm
    have hv : v < 2 ^ k := by
      have : (v : Int) < ((2 ^ k : Nat) : Int) := by push_cast; exact v1
      omega
    have e : ((y : Int) * 2 ^ k).toNat = 2 ^ k * y := by
      have : ((y : Int) * 2 ^ k) = ((2 ^ k * y : Nat) : Int) := by push_cast; rw [Int.mul_comm]
      rw [this, Int.toNat_natCast]
    rw [e, Int.toNat_natCast, Nat.or_comm, ← Nat.two_pow_add_eq_or_of_lt hv]
    push_cast
    omega
  have h4 : i = 0 ∨ i = 1 ∨ i = 2 ∨ i = 3 := by omega
  rcases h4 with rfl | rfl | rfl | rfl
  · exact key 0 1 (by rfl) h0 h1 (by omega)
  · exact key 8 256 (by rfl) h0 (by simpa using h1) (by omega)
  · exact key 16 65536 (by rfl) h0 (by simpa using h1) (by omega)
  · exact key 24 16777216 (by rfl) h0 (by simpa using h1) (by omega)
set_option maxRecDepth 100000 in
theorem MemAt.look {w : World} {b bm : Nat} {c : Cells} (h : MemAt w b bm c) {x : Int} (h0 : 0 ≤ x) (h1 : x < 4294967296) :
    (Instr.lookup 99 (.map (some bm)) (av x) false).run Tryz.prog w = .ok (.int .u8 (getL c x)) w := by
  obtain ⟨hc, D, ho, hd⟩ := h
  obtain ⟨y, hrun, hat, _⟩ := World.ownsMap.lookup_int ho placeLaw Tryz.underlying99 Tryz.underlying5 (zeroU8 w) (keyOf_at h0 h1)
  rw [hd.val x h0 h1] at hat
  injection hat with hat
  injection hat with _ hat
  rw [hrun, hat]
set_option maxRecDepth 100000 in
set_option maxHeartbeats 1000000 in
theorem load_any (w : World) (b bm : Nat) (c : Cells) (a n : Int) (hs : sizeB n = true) (hm : MemAt w b bm c) :
    Calls Tryz.prog 125 #[.pointer (some ⟨b, 0, none⟩), .int .u32 a, .int .i64 n] w fun e w' => e = .returned (.int .u32 (loadN c a n.toNat)) ∧ Below w.heap.size w w' := by
  have hlt := hm.lt
  have hn : n = 1 ∨ n = 2 ∨ n = 4 := by unfold sizeB at hs; simp at hs; omega
  have HN := Lib.hid hn
  have n0 : 0 ≤ n := by omega
  have n4 : n ≤ 4 := by omega
  clear hn
  go_enter Tryz.func125, Tryz.ntmps125
  go_wp2_with (go_at_call 152; refine (size_any n _).mono ?_; rintro e w' ⟨rfl, rfl⟩)
  go_loopw [7, 19] (fun v k wr => ∃ (i : Nat) (V : Int), (i : Int) ≤ n ∧ k = .int .u32 i ∧ v = .int .u32 V ∧ Hid (V + 256 ^ i * loadN c (a + i) (n.toNat - i) = loadN c a n.toNat ∧ 0 ≤ V ∧ V < 256 ^ i) ∧ MemAt wr b bm c ∧ Below w.heap.size w wr) (fun _ k _ => 4 - (intOf k).toNat)
  case atStart => exact ⟨0, 0, by omega, rfl, rfl, ⟨by simp, by omega, by simp⟩, hm, Below.refl _ _⟩
  case round =>
    obtain ⟨i, V, hi, rfl, rfl, HV, hmr, hbr⟩ := hrel
    by_cases hlt2 : (i : Int) < n
    · obtain ⟨hc, _⟩ := id hmr
      have hr0 : 0 ≤ w32 (a + i) := by unfold w32; omega
      have hr1 : w32 (a + i) < 4294967296 := by unfold w32; omega
      have hl := fun o => (hmr.alloc o).drew.look hr0 hr1
      have hbl := World.block_lt_of_cell? wr _ hc
      have he : IntKind.u32.wrap (a + i) = w32 (a + i) := wrap_u32 _
      have hof := fun W => of_any (w32 (a + i)) W hr0 hr1
      generalize hx : w32 (a + i) = x at *
      have hg := hmr.is.2.get x
      generalize hy : getL c x = g at *
      have HX := Lib.hid hx
      have HY := Lib.hid hy
      clear hx hy
      obtain ⟨HV, V0, V1⟩ := HV.out
      have HV := Lib.hid HV
      have hv := or_step V g i (by omega) V0 V1 hg.1 hg.2
      have hnew : Hid (V + 256 ^ i * g + 256 ^ (i + 1) * loadN c (a + ((i + 1 : Nat) : Int)) (n.toNat - (i + 1)) = loadN c a n.toNat ∧ 0 ≤ V + 256 ^ i * g ∧ V + 256 ^ i * g < 256 ^ (i + 1)) := by
        have e1 := HV.out
        obtain ⟨m, hm1⟩ : ∃ m, n.toNat - i = m + 1 := ⟨n.toNat - i - 1, by omega⟩
        have hm2 : n.toNat - (i + 1) = m := by omega
        rw [hm1, loadN, HX.out, HY.out] at e1
        rw [hm2]
        have e2 : a + (i : Int) + 1 = a + ((i + 1 : Nat) : Int) := by push_cast; omega
        rw [e2] at e1
        have hp : (256 : Int) ^ (i + 1) = 256 ^ i * 256 := Int.pow_succ _ _
        have p0 : (0 : Int) < 256 ^ i := Int.pow_pos (by omega)
        refine ⟨?_, ?_, ?_⟩
        · rw [hp, ← e1, Int.mul_add, Int.mul_assoc, Int.add_assoc]
        · have := Int.mul_nonneg (Int.le_of_lt p0) hg.1
          omega
        · rw [hp]
          have := Int.mul_le_mul_of_nonneg_left (show g ≤ 255 by omega) (Int.le_of_lt p0)
          omega
      clear HV HX HY V1
      have hi1 : ((i + 1 : Nat) : Int) ≤ n := by omega
      have h4 : i = 0 ∨ i = 1 ∨ i = 2 ∨ i = 3 := by omega
      rcases h4 with rfl | rfl | rfl | rfl
      all_goals
        simp only [Int.cast_ofNat_Int, Int.add_zero, Int.mul_zero, Int.mul_one, Int.reduceMul] at he hv hlt2
        generalize hV2 : V + 256 ^ _ * g = V2 at hv hnew
        clear hV2
        go_wp2_with fail
        go_region_held3 (fun w' => w'.cell? ⟨b, 0, none⟩ = some (.map (some bm)))
          (first | go_keep)
          (first | (go_at_call 106; refine (hof _).mono ?_; rintro e w' ⟨rfl, cs, rfl⟩))
        go_wp2
        go_roundw
        case rel => exact ⟨_, V2, hi1, rfl, rfl, hnew, (hmr.alloc _).drew, hbr.trans (((Below.refl _ _).alloc (Nat.le_refl _) _).drew.mono hbr.size)⟩
        case measure => simp [intOf]
    · have e : i = n.toNat := by omega
      subst e
      have e := HV.out.1
      rw [Nat.sub_self, loadN, Int.mul_zero, Int.add_zero] at e
      subst e
      go_wp2
      go_ret
      exact ⟨rfl, hbr⟩
end Go.Proofs.YthbdmlcbdibiiaaGreatDoor
/- Memory's 'Store', 'Len', 'New'. -/
namespace Go.Proofs.YthbdmlcbdibiiaaGreatDoor
open Go.RowKit Go.Mem Go.Maps
set_option maxRecDepth 100000 in
set_option maxHeartbeats 1000000 in
theorem store_any (w : World) (b bm : Nat) (c : Cells) (a n v : Int) (hs : sizeB n = true) (v0 : 0 ≤ v) (v1 : v < 4294967296) (hm : MemAt w b bm c) :
    Calls Tryz.prog 151 #[.pointer (some ⟨b, 0, none⟩), .int .u32 a, .int .i64 n, .int .u32 v] w fun e w' => e = .returned (.tuple #[]) ∧ MemAt w' b bm (storeN c a v n.toNat) ∧ w.grownBy w' (some bm) := by
  have hn : n = 1 ∨ n = 2 ∨ n = 4 := by unfold sizeB at hs; simp at hs; omega
  have HN := Lib.hid hn
  have n0 : 0 ≤ n := by omega
  have n4 : n ≤ 4 := by omega
  clear hn
  go_enter Tryz.func151, Tryz.ntmps151
  go_wp2_with (go_at_call 152; refine (size_any n _).mono ?_; rintro e w' ⟨rfl, rfl⟩)
  go_loopw [18] (fun k wr => ∃ (i : Nat) (c' : Cells), (i : Int) ≤ n ∧ k = .int .u32 i ∧ Hid (storeN c' (a + i) (v / 256 ^ i) (n.toNat - i) = storeN c a v n.toNat) ∧ MemAt wr b bm c' ∧ w.grownBy wr (some bm)) (fun k _ => 4 - (intOf k).toNat)
  case atStart => exact ⟨0, c, by omega, rfl, Lib.hid (by simp), hm, World.grownBy.refl _ _⟩
  case round =>
    obtain ⟨i, c', hi, rfl, HV, hmr, hbr⟩ := hrel
    by_cases hlt2 : (i : Int) < n
    · have hr0 : 0 ≤ w32 (a + i) := by unfold w32; omega
      have hr1 : w32 (a + i) < 4294967296 := by unfold w32; omega
      have he : IntKind.u32.wrap (a + i) = w32 (a + i) := wrap_u32 _
      have hnew : Hid (storeN (putL c' (w32 (a + i)) (v / 256 ^ i % 256)) (a + ((i + 1 : Nat) : Int)) (v / 256 ^ (i + 1)) (n.toNat - (i + 1)) = storeN c a v n.toNat) := by
        have e1 := HV.out
        obtain ⟨m, hm1⟩ : ∃ m, n.toNat - i = m + 1 := ⟨n.toNat - i - 1, by omega⟩
        have hm2 : n.toNat - (i + 1) = m := by omega
        rw [hm1, storeN_step] at e1
        rw [hm2]
        have e2 : a + (i : Int) + 1 = a + ((i + 1 : Nat) : Int) := by push_cast; omega
        have p0 : (0 : Int) ≤ 256 ^ i := Int.le_of_lt (Int.pow_pos (by omega))
        have e3 : v / 256 ^ (i + 1) = v / 256 ^ i / 256 := by rw [Int.pow_succ, Int.ediv_ediv_of_nonneg p0]
        rw [e2] at e1
        rw [e3]
        exact e1
      have hset := set_any wr b bm c' (w32 (a + i)) (v / 256 ^ i % 256) hr0 hr1 (by omega) (by omega) hmr
      have hi1 : ((i + 1 : Nat) : Int) ≤ n := by omega
      clear HV
      generalize w32 (a + i) = x at *
      generalize hg : v / 256 ^ i % 256 = g at *
      have h4 : i = 0 ∨ i = 1 ∨ i = 2 ∨ i = 3 := by omega
      rcases h4 with rfl | rfl | rfl | rfl
      all_goals
        simp only [Int.cast_ofNat_Int, Int.add_zero, Int.reducePow, Int.ediv_one] at he hlt2 hg
        try (have hg3 : v / 16777216 = g := by omega
             clear hg)
        go_wp2_with fail
        ((with_reducible refine hset.mono ?_))
        rintro e w' ⟨rfl, hm2, hg2⟩
        clear hset
        go_wp2
        go_roundw
        case rel => exact ⟨_, _, hi1, rfl, hnew, hm2, hbr.trans hg2⟩
        case measure => simp [intOf]
    · have e : i = n.toNat := by omega
      subst e
      have e := HV.out
      rw [Nat.sub_self, storeN] at e
      subst e
      go_wp2
      refine bodyPost_end (results_none rfl _ _ _) rfl ?_
      exact ⟨rfl, hmr, hbr⟩
end Go.Proofs.YthbdmlcbdibiiaaGreatDoor
/- The reference's 'New', 'Store', 'Same'; memory's 'New'. -/
namespace Go.Proofs.YthbdmlcbdibiiaaGreatDoor
open Go.RowKit Go.Mem
set_option maxRecDepth 100000 in
theorem below_drewN {B : Nat} {a w : World} (h : Below B a w) (n : Nat) : Below B a (w.drewN n) := h.trans ⟨rfl, rfl, rfl, Nat.le_refl _, fun _ _ => rfl⟩
set_option maxRecDepth 100000 in
theorem take_snoc' {α : Type} (l : List α) (k : Nat) (h : k < l.length) : l.take (k + 1) = l.take k ++ [l[k]] := List.take_succ_eq_append_getElem h
set_option maxRecDepth 100000 in
theorem cellNeq (x y : Int) (w : World) : (binOp .neq 71 (.agg #[.int .u32 x, .int .u8 y]) (.agg #[.int .u32 x, .int .u8 y])).run Tryz.prog w = .ok (.bool false) w := by
  have u1 := Tryz.underlying24
  have u2 := Tryz.underlying5
  have hS : Tryz.prog.underlying 71 = some (.struct (Tryz.prog.fieldsOf 71)) := by kernel_rfl
  have hp : Tryz.prog.stoodInHeld 71 = false := by kernel_rfl
  have a1 := Tryz.isAgg24
  have z1 := Tryz.sizeOf24
  have a2 := Tryz.isAgg5
  have z2 := Tryz.sizeOf5
  rw [run_neq_struct, show (10000 : Nat) = 9999 + 1 from rfl, run_equalIn_agg w 9999 71 _ _ hS hp]
  simp only [Program.fieldsOf, Tryz.underlying71]
  go_simp
set_option maxRecDepth 100000 in
set_option maxHeartbeats 2000000 in
theorem rSame_any (c : Cells) (A A' : Option Addr) (cap cap' : Nat) (w : World) (h : ClAt w w.heap.size A c) (h' : ClAt w w.heap.size A' c) (hl : c.length ≤ 4294967296) :
    Calls Tryz.prog 27 #[.slice A c.length cap, .slice A' c.length cap'] w fun e w' => e = .returned (.bool true) ∧ Below w.heap.size w w' := by
  go_enter Tryz.func27, Tryz.ntmps27
  go_wp2
  go_loopw [5] (fun k wr => ∃ (i : Nat), i ≤ c.length ∧ k = .int .i64 i ∧ Below w.heap.size w wr) (fun k _ => c.length - (intOf k).toNat)
  case atStart => exact ⟨0, by omega, rfl, Below.refl _ _⟩
  case round =>
    obtain ⟨i, hi, rfl, hbr⟩ := hrel
    by_cases hlt : i < c.length
    · obtain ⟨g, off, rfl, hg, h1, h2⟩ := (h.below hbr (Nat.le_refl _)).at_ hlt
      obtain ⟨g', off', rfl, hg', h1', h2'⟩ := (h'.below hbr (Nat.le_refl _)).at_ hlt
      generalize hp : c[i] = p at *
      obtain ⟨pa, pb⟩ := p
      simp only at h1 h2 h1' h2'
      clear hp
      have hcn := cellNeq pa pb
      have hi0 : (0 : Int) ≤ (i : Int) := by omega
      have hi1 : (i : Int) < (c.length : Int) := by omega
      go_wp2_with fail
      go_quiet (fail)
      go_wp2
      go_roundw
      case rel => exact ⟨i + 1, by omega, by go_num, below_drewN hbr _⟩
      case measure => simp [intOf]; omega
    · have e : i = c.length := by omega
      subst e
      go_wp2
      go_ret
      exact ⟨rfl, hbr⟩
set_option maxRecDepth 100000 in
theorem Blk_cell (w : World) (t : TypeId) (v : Value) : (w.alloc (.cells #[v] t)).cell? ⟨w.heap.size, 0, none⟩ = some v := by
  rw [cell_of_row _ _ _ _ t (0, 0) (heap_alloc_new w _)]
  rfl
set_option maxRecDepth 100000 in
set_option maxHeartbeats 2000000 in
theorem new_any (l : Cells) (A : Option Addr) (cap : Nat) (w : World) (h : ClAt w w.heap.size A l) (hl : l.length ≤ 4294967296) (hr : InR l) :
    Calls Tryz.prog 35 #[.slice A l.length cap] w fun e w' => e = .returned (.pointer (some ⟨w.heap.size + 1, 0, none⟩)) ∧ MemAt w' (w.heap.size + 1) w.heap.size (newL l) ∧ Below w.heap.size w w' := by
  have hmm := @run_makeMap Tryz.prog
  go_enter Tryz.func35, Tryz.ntmps35
  go_wp2
  go_loopw [5, 11] (fun x k wr => ∃ i : Nat, i ≤ l.length ∧ k = .int .i64 i ∧ MemAt wr (w.heap.size + 1) w.heap.size (newL (l.take i)) ∧ Below w.heap.size w wr) (fun _ k _ => l.length - (intOf k).toNat)
  case atStart =>
    refine ⟨0, by omega, rfl, ⟨?_, .map [], ?_, mapIs_nil⟩, ((Below.refl _ _).alloc (Nat.le_refl _) _).alloc (by simp) _⟩
    · have e : w.heap.size + 1 = (w.alloc (Obj.map #[] 0)).heap.size := by simp
      rw [e]
      exact Blk_cell _ _ _
    · exact World.ownsMap.alloc (World.ownsMap_made w _ _ _) _
  case round =>
    obtain ⟨i, hi, rfl, hm, hbr⟩ := hrel
    by_cases hlt : i < l.length
    · obtain ⟨g, off, rfl, hg, h1, h2⟩ := (h.below hbr (Nat.le_refl _)).at_ hlt
      have HT := Lib.hid (take_snoc' l i hlt)
      have hp2 := hr _ (List.getElem_mem hlt)
      generalize hp : l[i] = p at *
      obtain ⟨pa, pb⟩ := p
      simp only at h1 h2 hp2
      clear hp
      have hset := fun W (hW : MemAt W (w.heap.size + 1) w.heap.size (newL (l.take i))) => set_any W _ _ _ pa pb hp2.1 hp2.2.1 hp2.2.2.1 hp2.2.2.2 hW
      have HN : Hid (newL (l.take (i + 1)) = putL (newL (l.take i)) pa pb) := Lib.hid (by rw [HT.out, newL_snoc])
      generalize newL (l.take i) = c' at *
      have hbs := hbr.size
      clear HT hp2
      go_wp2_with (go_at_call 63; refine (hset _ (by exact hm.alloc _)).mono ?_; rintro e w' ⟨rfl, hm2, hg2⟩)
      go_roundw
      case rel => exact ⟨i + 1, by omega, by go_num, by rw [HN.out]; exact hm2, (hbr.alloc hbs _).grown hg2 (by simp; omega) (fun j hj => by cases hj; exact Nat.le_refl _)⟩
      case measure => simp [intOf]; omega
    · have e : i = l.length := by omega
      subst e
      have HT := Lib.hid (show l.take l.length = l from List.take_length)
      rw [HT.out] at hm
      go_wp2
      go_ret
      exact ⟨rfl, hm, hbr⟩
end Go.Proofs.YthbdmlcbdibiiaaGreatDoor
/- The kinds of values of the machine's chapter: rows of cells, and memories. -/
namespace Go.Proofs.YthbdmlcbdibiiaaGreatDoor
open Go.RowKit Go.Mem Go.Sx
def clSc (l : Cells) : Sc := .list (l.map fun p => .list [.int p.1, .int p.2])
set_option maxRecDepth 100000 in
theorem clSc_len (l : Cells) : (clSc l).asList.length = l.length := by simp [clSc]
def RowP (k : Nat) (d : Sc) (v : Value) (F : Nat → Prop) (w : World) : Prop :=
  ∃ (l : Cells) (A : Option Addr) (cap : Nat), d = clSc l ∧ v = .slice A l.length cap ∧ ClAt w w.heap.size A l ∧ InR l ∧ (l.length ≤ 4294967296 ∧ (k = 2 → Canon l)) ∧ F = fun q => l ≠ [] ∧ ∃ a, A = some a ∧ q = a.block
def MemP (d : Sc) (v : Value) (F : Nat → Prop) (w : World) : Prop :=
  ∃ (b bm : Nat) (c : Cells), d = clSc c ∧ v = .pointer (some ⟨b, 0, none⟩) ∧ MemAt w b bm c ∧ F = fun q => q = b ∨ q = bm
def LowP (k : Nat) (d : Sc) (v : Value) (F : Nat → Prop) (w : World) : Prop :=
  (k = 100 ∧ MemP d v F w) ∨ (rowK k ≠ [] ∧ RowOk (rowK k) d v F w)
def mchP (k : Nat) (d : Sc) (v : Value) (F : Nat → Prop) (w : World) : Prop :=
  (k < 100 ∧ RowP k d v F w) ∨ (100 ≤ k ∧ LowP k d v F w)
set_option maxRecDepth 100000 in
theorem rowK_ge {k : Nat} (h : rowK k ≠ []) : 1000 ≤ k := by
  rcases Nat.lt_or_ge k 1000 with hk | hk
  · refine (h ?_).elim
    have b : ∀ n, 1000 ≤ n → Nat.beq k n = false := fun n hn => by
      cases e : Nat.beq k n
      · rfl
      · have := Nat.eq_of_beq_eq_true e; omega
    unfold rowK
    rw [b 1000 (by omega), b 1001 (by omega), b 1002 (by omega), b 1003 (by omega), b 1004 (by omega)]
  · exact hk
set_option maxRecDepth 100000 in
theorem cell_same {w w' : World} {p : Addr} (h : w'.heap[p.block]? = w.heap[p.block]?) : w'.cell? p = w.cell? p := World.cell?_of_block h
set_option maxRecDepth 100000 in
theorem mch_stable (k : Nat) (d : Sc) (v : Value) (F : Nat → Prop) (w w' : World) (h : mchP k d v F w) (hb : ∀ b, F b → w'.heap[b]? = w.heap[b]?) : mchP k d v F w' := by
  rcases h with ⟨hk, l, A, cap, h1, h2, h3, h4, h5, rfl⟩ | ⟨hk, ⟨hk', b, bm, c, h1, h2, h3, rfl⟩ | ⟨hk', h⟩⟩
  · refine .inl ⟨hk, l, A, cap, h1, h2, ?_, h4, h5, rfl⟩
    intro hn
    obtain ⟨g, off, e, hg, hc⟩ := h3 hn
    have hs := hb g ⟨hn, _, e, rfl⟩
    refine ⟨g, off, e, ?_, fun i p hp => ?_⟩
    · have : w.heap[g]? ≠ none := by rw [Array.getElem?_eq_getElem hg]; simp
      rw [← hs] at this
      rcases Nat.lt_or_ge g w'.heap.size with h | h
      · exact h
      · exact (this (Array.getElem?_eq_none h)).elim
    · obtain ⟨c1, c2⟩ := hc i p hp
      exact ⟨(cell_same (p := ⟨g, off + i * 2, none⟩) hs).trans c1, (cell_same (p := ⟨g, off + i * 2 + 1, none⟩) hs).trans c2⟩
  · refine .inr ⟨hk, .inl ⟨hk', b, bm, c, h1, h2, ?_, rfl⟩⟩
    obtain ⟨hc, D, ⟨es, clock, hm, r⟩, hd⟩ := h3
    exact ⟨(cell_same (p := ⟨b, 0, none⟩) (hb b (.inl rfl))).trans hc, D, ⟨es, clock, (hb bm (.inr rfl)).trans hm, r⟩, hd⟩
  · exact .inr ⟨hk, .inr ⟨hk', h.stable hb⟩⟩
set_option maxRecDepth 100000 in
theorem mch_lt (k : Nat) (d : Sc) (v : Value) (F : Nat → Prop) (w : World) (b : Nat) (h : mchP k d v F w) (hF : F b) : b < w.heap.size := by
  rcases h with ⟨hk, l, A, cap, h1, h2, h3, h4, h5, rfl⟩ | ⟨hk, ⟨hk', b', bm, c, h1, h2, h3, rfl⟩ | ⟨hk', h⟩⟩
  · obtain ⟨hn, a, ha, rfl⟩ := hF
    obtain ⟨g, off, e, hg, _⟩ := h3 hn
    rw [ha] at e
    simp only [Option.some.injEq] at e
    subst e
    exact hg
  · rcases hF with rfl | rfl
    · exact h3.lt.1
    · exact h3.lt.2
  · exact h.1 b hF
set_option maxRecDepth 100000 in
theorem mch_len (k : Nat) (d : Sc) (v : Value) (F : Nat → Prop) (w : World) (hk : k < 100) (h : mchP k d v F w) : ∃ (p : Option Addr) (c : Nat), v = .slice p d.asList.length c := by
  rcases h with ⟨_, l, A, cap, rfl, rfl, _⟩ | ⟨h100, _⟩
  · exact ⟨A, cap, by rw [clSc_len]⟩
  · omega
set_option maxRecDepth 100000 in
theorem mch_rows (k : Nat) (d : Sc) (v : Value) (F : Nat → Prop) (w : World) (hk : rowK k ≠ []) (h : mchP k d v F w) : RowOk (rowK k) d v F w := by
  have := rowK_ge hk
  rcases h with ⟨h, _⟩ | ⟨_, ⟨h, _⟩ | ⟨_, h⟩⟩
  · omega
  · omega
  · exact h
def mchAbs (B : Nat → Prop) : Abs := ⟨mchP, mch_stable, mch_lt, mch_len, mch_rows, B⟩
set_option maxRecDepth 100000 in
theorem mch_nil (ρ : Env) (B : Nat → Prop) (h : ρ.ab = mchAbs B) (hs : ∀ i, (ρ.v i).asStr.length ≤ 1000000) : NilOk ρ := by
  refine ⟨?_, hs⟩
  intro k w hk
  refine ⟨fun q => ([] : Cells) ≠ [] ∧ ∃ a, (none : Option Addr) = some a ∧ q = a.block, ?_⟩
  rw [h]
  exact .inl ⟨hk, [], none, 0, rfl, rfl, ClAt.nil _ _ _, inR_nil, ⟨by simp, fun _ => canon_nil⟩, rfl⟩
end Go.Proofs.YthbdmlcbdibiiaaGreatDoor
/- Rows of cells that a call makes are new; the memory's functions as functions of data. -/
namespace Go.Proofs.YthbdmlcbdibiiaaGreatDoor
open Go.RowKit Go.Mem Go.Sx
def NewA (base : Nat) (c : Cells) (A : Option Addr) : Prop := c ≠ [] → ∃ a, A = some a ∧ base ≤ a.block
set_option maxRecDepth 100000 in
theorem own_sliceN {w : World} {base : Nat} {e : TypeId} {v : Value} {c : Cells} (h : w.ownsRow base e 2 v c.length (encC c)) : ∃ A cap, v = .slice A c.length cap ∧ ClAt w w.heap.size A c ∧ NewA base c A := by
  rcases h.2 with ⟨hv, h0⟩ | ⟨g, cap', cur, hv, hg, _⟩
  · subst hv
    have hc : c = [] := List.eq_nil_of_length_eq_zero h0
    subst hc
    exact ⟨none, 0, rfl, ClAt.nil _ _ _, fun hn => absurd rfl hn⟩
  · subst hv
    exact ⟨_, _, rfl, ClAt.of_own h, fun _ => ⟨_, rfl, hg⟩⟩
def RetNew (w : World) (c : Cells) (e : Ending) (w' : World) : Prop := ∃ A' cap', e = .returned (.slice A' c.length cap') ∧ ClAt w' w'.heap.size A' c ∧ NewA w.heap.size c A' ∧ Below w.heap.size w w'
set_option maxRecDepth 100000 in
theorem rPutN (c : Cells) (A : Option Addr) (cap : Nat) (a b : Int) (w : World) (h : ClAt w w.heap.size A c) (hl : c.length ≤ 4294967296) :
    Calls Tryz.prog 30 #[.slice A c.length cap, .int .u32 a, .int .u8 b] w (RetNew w (putL c a b)) :=
  (rPut_go c A cap a b (b == 0) w h hl rfl).mono fun e w' ⟨v, he, ho, hb⟩ => by
    obtain ⟨A', cap', rfl, hc, hn⟩ := own_sliceN ho
    exact ⟨A', cap', he, hc, hn, hb⟩
set_option maxRecDepth 100000 in
set_option maxHeartbeats 2000000 in
theorem rNewN (l : Cells) (A : Option Addr) (cap : Nat) (w : World) (h : ClAt w w.heap.size A l) (hl : l.length ≤ 4294967296) :
    Calls Tryz.prog 16 #[.slice A l.length cap] w (RetNew w (newL l)) := by
  go_enter Tryz.func16, Tryz.ntmps16
  go_wp2
  go_loopw [3, 4] (fun o k wr => ∃ (i : Nat) (A' : Option Addr) (cap' : Nat), i ≤ l.length ∧ k = .int .i64 i ∧ o = .slice A' (newL (l.take i)).length cap' ∧ ClAt wr wr.heap.size A' (newL (l.take i)) ∧ NewA w.heap.size (newL (l.take i)) A' ∧ Below w.heap.size w wr) (fun _ k _ => l.length - (intOf k).toNat)
  case atStart => exact ⟨0, none, 0, by omega, rfl, rfl, ClAt.nil _ _ _, fun hn => absurd rfl hn, Below.refl _ _⟩
  case round =>
    obtain ⟨i, A', cap', hi, rfl, rfl, hcl, hnw, hbr⟩ := hrel
    by_cases hlt : i < l.length
    · obtain ⟨g, off, rfl, hg, h1, h2⟩ := (h.below hbr (Nat.le_refl _)).at_ hlt
      have HT := Lib.hid (take_snoc' l i hlt)
      generalize hp : l[i] = p at *
      obtain ⟨pa, pb⟩ := p
      simp only at h1 h2
      clear hp
      have hlen : (newL (l.take i)).length ≤ 4294967296 := by have := length_new_le (l.take i); simp at this; omega
      have hput := fun W (hW : ClAt W W.heap.size A' (newL (l.take i))) => rPutN (newL (l.take i)) A' cap' pa pb W hW hlen
      have HN : Hid (newL (l.take (i + 1)) = putL (newL (l.take i)) pa pb) := Lib.hid (by rw [HT.out, newL_snoc])
      generalize newL (l.take i) = c' at *
      have hbs := hbr.size
      clear HT hnw
      go_wp2_with fail
      go_region_held3 (fun w' => w'.cell? ⟨g, off + i * 2, none⟩ = some (.int .u32 pa) ∧ w'.cell? ⟨g, off + i * 2 + 1, none⟩ = some (.int .u8 pb))
        (first
          | go_keep
          | (exact ⟨(hb2.cell (p := ⟨g, off + i * 2, none⟩) (by simp; omega)).trans h1, (hb2.cell (p := ⟨g, off + i * 2 + 1, none⟩) (by simp; omega)).trans h2⟩))
        (first
          | (go_at_call 30; refine (hput _ (by exact hcl)).mono ?_; rintro e w' ⟨A2, cap2, rfl, hA2, hN2, hb2⟩))
      clear hput
      go_wp2
      go_roundw
      case rel => exact ⟨i + 1, A2, cap2, by omega, by go_num, by rw [HN.out], by rw [HN.out]; exact hA2, by rw [HN.out]; exact fun hn => (hN2 hn).imp fun a ha => ⟨ha.1, Nat.le_trans hbs ha.2⟩, hbr.drew.trans (Below.mono hb2 hbs)⟩
      case measure => simp [intOf]; omega
    · have e : i = l.length := by omega
      subst e
      have HT := Lib.hid (show l.take l.length = l from List.take_length)
      go_wp2
      go_ret
      rw [HT.out] at hcl hnw
      rw [HT.out]
      exact ⟨A', cap', rfl, hcl, hnw, hbr⟩
end Go.Proofs.YthbdmlcbdibiiaaGreatDoor
/- What is known of the memory's functions and of the reference's rows, as specs of data. -/
namespace Go.Proofs.YthbdmlcbdibiiaaGreatDoor
open Go.RowKit Go.Mem Go.Sx
def scCl (d : Sc) : Cells := d.asList.map fun x => ((x.asList.getD 0 (.int 0)).asInt, (x.asList.getD 1 (.int 0)).asInt)
set_option maxRecDepth 100000 in
theorem scCl_cl (l : Cells) : scCl (clSc l) = l := by
  simp only [scCl, clSc, Sc.asList_list, List.map_map]
  conv => rhs; rw [← List.map_id l]
  exact List.map_congr_left fun p _ => rfl
def newSc (ss : List Sc) : Sc := clSc (newL (scCl (ss.getD 0 (.int 0))))
set_option maxRecDepth 100000 in
theorem row_new {B : Nat → Prop} {ρ : Env} (hab : ρ.ab = mchAbs B) (h700 : ∀ ss, ρ.f 700 ss = newSc ss) {w : World} {l : Cells} {e : Ending} {w' : World} (hr : InR l) (h : RetNew w (newL l) e w') :
    Below w.heap.size w w' ∧ ∃ (v : OneV) (F : Nat → Prop), e = .returned v.v ∧ (∀ q, F q → w.heap.size ≤ q) ∧ ∀ t : Tm, (t.den ρ).asList = [clSc l] → ρ.ab.P 2 ((Tm.app 700 t).den ρ) v.v F w' := by
  obtain ⟨A', cap', rfl, hcl, hn, hb⟩ := h
  refine ⟨hb, ⟨.slice A' (newL l).length cap', rfl⟩, fun q => newL l ≠ [] ∧ ∃ a, A' = some a ∧ q = a.block, rfl, ?_, fun t ht => ?_⟩
  · rintro q ⟨h0, a, ha, rfl⟩
    obtain ⟨a', ha', hle⟩ := hn h0
    rw [ha] at ha'
    simp only [Option.some.injEq] at ha'
    subst ha'
    exact hle
  · rw [hab]
    refine .inl ⟨by omega, newL l, A', cap', ?_, rfl, hcl, inR_new l hr, ⟨length_le (canon_new l) (inR_new l hr), fun _ => canon_new l⟩, rfl⟩
    simp only [Tm.den, h700, newSc, ht, List.getD_cons_zero, scCl_cl]
set_option maxRecDepth 100000 in
theorem all_one {ρ : Env} {w : World} {k : Nat} {ss : List Sc} {vs : List Value} (h : AllOk ρ w [.dat k] ss vs) : ∃ s v F, ss = [s] ∧ vs = [v] ∧ ρ.ab.P k s v F w := by
  match ss, vs, h with
  | [s], [v], h =>
    obtain ⟨⟨F, hP⟩, _⟩ := h
    exact ⟨s, v, F, rfl, rfl, hP⟩
  | [], [], h => exact h.elim
  | [], _ :: _, h => exact h.elim
  | _ :: _, [], h => exact h.elim
  | [_], _ :: _ :: _, h => exact h.2.elim
  | _ :: _ :: _, [_], h => exact h.2.elim
  | _ :: _ :: _, _ :: _ :: _, h => exact h.2.elim
set_option maxRecDepth 100000 in
theorem rnew_spec {B : Nat → Prop} {ρ : Env} (hab : ρ.ab = mchAbs B) (h700 : ∀ ss, ρ.f 700 ss = newSc ss) (k : Nat) (hk : k < 100) (ss : List Sc) (vs : List Value) (w : World) (h : AllOk ρ w [.dat k] ss vs) :
    Calls Tryz.prog 16 vs.toArray w fun e w' => Below w.heap.size w w' ∧ ∃ (v : OneV) (F : Nat → Prop), e = .returned v.v ∧ (∀ q, F q → w.heap.size ≤ q) ∧ ∀ t : Tm, (t.den ρ).asList = ss → ρ.ab.P 2 ((Tm.app 700 t).den ρ) v.v F w' := by
  obtain ⟨s, v, F, rfl, rfl, hP⟩ := all_one h
  rw [hab] at hP
  rcases hP with ⟨_, l, A, cap, rfl, rfl, hcl, hr, ⟨hl, _⟩, _⟩ | ⟨h1, _⟩
  · exact (rNewN l A cap w hcl hl).mono fun e w' hh => row_new hab h700 hr hh
  · omega
set_option maxRecDepth 100000 in
theorem mnew_spec {B : Nat → Prop} {ρ : Env} (hab : ρ.ab = mchAbs B) (h700 : ∀ ss, ρ.f 700 ss = newSc ss) (k : Nat) (hk : k < 100) (ss : List Sc) (vs : List Value) (w : World) (h : AllOk ρ w [.dat k] ss vs) :
    Calls Tryz.prog 35 vs.toArray w fun e w' => Below w.heap.size w w' ∧ ∃ (v : OneV) (F : Nat → Prop), e = .returned v.v ∧ (∀ q, F q → w.heap.size ≤ q) ∧ ∀ t : Tm, (t.den ρ).asList = ss → ρ.ab.P 100 ((Tm.app 700 t).den ρ) v.v F w' := by
  obtain ⟨s, v, F, rfl, rfl, hP⟩ := all_one h
  rw [hab] at hP
  rcases hP with ⟨_, l, A, cap, rfl, rfl, hcl, hr, ⟨hl, _⟩, _⟩ | ⟨h1, _⟩
  · refine (new_any l A cap w hcl hl hr).mono ?_
    rintro e w' ⟨rfl, hm, hb⟩
    refine ⟨hb, ⟨.pointer (some ⟨w.heap.size + 1, 0, none⟩), rfl⟩, fun q => q = w.heap.size + 1 ∨ q = w.heap.size, rfl, ?_, fun t ht => ?_⟩
    · rintro q (rfl | rfl) <;> omega
    · rw [hab]
      refine .inr ⟨Nat.le_refl _, .inl ⟨rfl, _, _, newL l, ?_, rfl, hm, rfl⟩⟩
      simp only [Tm.den, h700, newSc, ht, List.getD_cons_zero, scCl_cl]
  · omega
set_option maxRecDepth 100000 in
theorem clSc_inj {l l' : Cells} (h : clSc l = clSc l') : l = l' := by rw [← scCl_cl l, h, scCl_cl]
def sameSpec : Go.Sx.Spec := fun args h pc =>
  match matchA h [.dat 2, .dat 2] args with
  | some [t, s] => if t = s then .leaf ⟨.bool (.bit true), h, pc⟩ else .fail "two rows that may differ"
  | _ => .fail "arguments"
set_option maxRecDepth 100000 in
theorem same_spec {cx : Cx} (hP : cx.P = Tryz.prog) {B : Nat → Prop} {ρ : Env} (V : VarsOk ρ) (hab : ρ.ab = mchAbs B) (hs : ∀ i, (ρ.v i).asStr.length ≤ 1000000) :
    ∀ args h pc x, (pc.den ρ).asBool = true → (sameSpec args h pc).get ρ = some x → CallOk ρ cx.globs cx.P 27 args h x := by
  intro args h pc x hpc hx
  unfold sameSpec at hx
  split at hx
  · rename_i t s hm
    split at hx
    · rename_i e
      subst e
      simp only [Tree.get, Option.some.injEq] at hx
      subst hx
      intro K w0 ι w H _
      have ha := matchA_ok V (mch_nil ρ B hab hs) H hm
      generalize hvs : args.map (·.conc ρ ι) = vs at ha ⊢
      match vs, ha with
      | [v, u], ha =>
        obtain ⟨⟨F, h1⟩, ⟨F', h2⟩, _⟩ := ha
        rw [hab] at h1 h2
        rcases h1 with ⟨_, l, A, cap, e1, rfl, hcl, _, ⟨hl, _⟩, _⟩ | ⟨h1, _⟩
        · rcases h2 with ⟨_, l', A', cap', e2, rfl, hcl', _, _, _⟩ | ⟨h2, _⟩
          · have := clSc_inj (e1.symm.trans e2)
            subst this
            rw [hP]
            refine (rSame_any l A A' cap cap' w hcl hcl' hl).mono ?_
            rintro e w' ⟨rfl, hb⟩
            exact ⟨ι, Nm.Ext.refl _ _, Nat.le_refl _, H.under hb, rfl, hpc, by simp [SVal.conc, Tm.den]⟩
          · omega
        · omega
      | [], ha => exact ha.elim
      | [_], ha => exact ha.2.elim
      | _ :: _ :: _ :: _, ha => exact ha.2.2.elim
    · simp [Tree.get] at hx
  · simp [Tree.get] at hx
end Go.Proofs.YthbdmlcbdibiiaaGreatDoor
/- Bytes of code, or of a memory. -/
namespace Go.Proofs.YthbdmlcbdibiiaaGreatDoor
open Go.RowKit Go.Mem
def byteAt (C : List UInt8) (c : Cells) (x : Int) : Int := if x < C.length then ((C.getD x.toNat 0).toNat : Int) else getL c x
set_option maxRecDepth 100000 in
theorem byteAt_bound {C : List UInt8} {c : Cells} (h : InR c) (x : Int) : 0 ≤ byteAt C c x ∧ byteAt C c x < 256 := by
  unfold byteAt
  split
  · have := UInt8.toNat_lt (C.getD x.toNat 0)
    omega
  · exact h.get x
def loadC (C : List UInt8) (c : Cells) (a : Int) : Nat → Int
  | 0 => 0
  | n + 1 => byteAt C c (w32 a) + 256 * loadC C c (a + 1) n
set_option maxRecDepth 100000 in
theorem loadC_bound (C : List UInt8) (c : Cells) (h : InR c) : ∀ (n : Nat) (a : Int), 0 ≤ loadC C c a n ∧ loadC C c a n < 256 ^ n
  | 0, a => by simp [loadC]
  | n + 1, a => by
    have ih := loadC_bound C c h n (a + 1)
    have g := byteAt_bound (C := C) h (w32 a)
    rw [loadC, Int.pow_succ]
    omega
def inC (C : List UInt8) (a : Int) : Nat → Bool
  | 0 => false
  | n + 1 => decide (w32 a < C.length) || inC C (a + 1) n
def storeP (C : List UInt8) (c : Cells) (a v : Int) : Nat → Cells
  | 0 => c
  | n + 1 => if w32 a < C.length then c else storeP C (putL c (w32 a) (v % 256)) (a + 1) (v / 256) n
set_option maxRecDepth 100000 in
theorem storeP_free (C : List UInt8) : ∀ (n : Nat) (c : Cells) (a v : Int), inC C a n = false → storeP C c a v n = storeN c a v n
  | 0, _, _, _, _ => rfl
  | n + 1, c, a, v, h => by
    simp only [inC, Bool.or_eq_false_iff, decide_eq_false_iff_not] at h
    rw [storeP, if_neg h.1, storeP_free C n _ _ _ h.2]
    rfl
set_option maxRecDepth 100000 in
theorem canon_storeP (C : List UInt8) : ∀ (n : Nat) (c : Cells) (a v : Int), Canon c → Canon (storeP C c a v n)
  | 0, _, _, _, h => h
  | n + 1, c, a, v, h => by
    rw [storeP]
    split
    · exact h
    · exact canon_storeP C n _ _ _ (canon_put h _ _)
set_option maxRecDepth 100000 in
theorem inR_storeP (C : List UInt8) : ∀ (n : Nat) (c : Cells) (a v : Int), InR c → InR (storeP C c a v n)
  | 0, _, _, _, h => h
  | n + 1, c, a, v, h => by
    rw [storeP]
    split
    · exact h
    · exact inR_storeP C n _ _ _ (h.put (by unfold w32; omega) (by unfold w32; omega) (by omega) (by omega))
set_option maxRecDepth 100000 in
theorem or_front' (V g : Int) (h0 : 0 ≤ V) (g0 : 0 ≤ g) (g1 : g < 256) (hw : IntKind.u32.wrap (V * 256) = V * 256) : bits .or .u32 (V * 256) g = V * 256 + g := by
  have hV : V * 256 < 4294967296 := by
    have : IntKind.u32.wrap (V * 256) = V * 256 % 4294967296 := rfl
    omega
  rw [u32_or (V * 256) g (by omega) hV g0 (by omega)]
  obtain ⟨v, rfl⟩ := Int.eq_ofNat_of_zero_le h0
  obtain ⟨y, rfl⟩ := Int.eq_ofNat_of_zero_le g0
  have e : ((v : Int) * 256).toNat = 2 ^ 8 * v := by omega
  rw [e, Int.toNat_natCast, ← Nat.two_pow_add_eq_or_of_lt (by omega : y < 2 ^ 8)]
  omega
set_option maxRecDepth 100000 in
theorem or_step' (V g : Int) (i : Nat) (hi : i < 4) (h0 : 0 ≤ V) (h1 : V < 256 ^ i) (g0 : 0 ≤ g) (g1 : g < 256) : bits .or .u32 V (g * 256 ^ i) = V + 256 ^ i * g := by
  rw [← or_step V g i hi h0 h1 g0 g1]
  congr 1
  have h4 : i = 0 ∨ i = 1 ∨ i = 2 ∨ i = 3 := by omega
  have w : ∀ n, IntKind.u32.wrap n = n % 4294967296 := fun _ => rfl
  rcases h4 with rfl | rfl | rfl | rfl
  · have e : (2 : Int) ^ min (IntKind.u32.wrap (8 * ((0 : Nat) : Int))).toNat 32 = 1 := rfl
    rw [e, w, w]; omega
  · have e : (2 : Int) ^ min (IntKind.u32.wrap (8 * ((1 : Nat) : Int))).toNat 32 = 256 := rfl
    rw [e, w, w]; omega
  · have e : (2 : Int) ^ min (IntKind.u32.wrap (8 * ((2 : Nat) : Int))).toNat 32 = 65536 := rfl
    rw [e, w, w]; omega
  · have e : (2 : Int) ^ min (IntKind.u32.wrap (8 * ((3 : Nat) : Int))).toNat 32 = 16777216 := rfl
    rw [e, w, w]; omega
set_option maxRecDepth 100000 in
theorem in_any (w : World) (b : Nat) (C : ByteArray) (a : Int) (hc : w.cell? ⟨b, 22, none⟩ = some (.string C)) (hC : C.size ≤ 1000000) (a0 : 0 ≤ a) (a1 : a < 4294967296) :
    Calls Tryz.prog 52 #[.pointer (some ⟨b, 0, none⟩), .int .u32 a] w fun e w' => e = .returned (.bool (decide (a < C.size))) ∧ w = w' := by
  go_enter Tryz.func52, Tryz.ntmps52
  go_wp2
  go_ret
  exact ⟨rfl, rfl⟩
end Go.Proofs.YthbdmlcbdibiiaaGreatDoor
/- The machine's and the reference's 'load'. -/
namespace Go.Proofs.YthbdmlcbdibiiaaGreatDoor
open Go.RowKit Go.Mem
set_option maxRecDepth 100000 in
theorem bget {C : ByteArray} {x : Int} (h0 : 0 ≤ x) (h : x.toNat < C.size) (c : Cells) : ((C[x.toNat]'h).toNat : Int) = byteAt C.data.toList c x := by
  have hs : C.data.toList.length = C.size := rfl
  unfold byteAt
  rw [if_pos (by omega), List.getD_eq_getElem?_getD, List.getElem?_eq_getElem (by omega)]
  rfl
set_option maxRecDepth 100000 in
theorem byte_far {C : ByteArray} {x : Int} (h : ¬ x < C.size) (c : Cells) : getL c x = byteAt C.data.toList c x := by
  have hs : C.data.toList.length = C.size := rfl
  unfold byteAt
  rw [if_neg (by omega)]
set_option maxRecDepth 100000 in
set_option maxHeartbeats 2000000 in
theorem mload_any (w : World) (b pm bm : Nat) (c : Cells) (C : ByteArray) (a n : Int) (hs : sizeB n = true) (hC : C.size ≤ 1000000)
    (hcode : w.cell? ⟨b, 22, none⟩ = some (.string C)) (hmem : w.cell? ⟨b, 23, none⟩ = some (.pointer (some ⟨pm, 0, none⟩))) (hm : MemAt w pm bm c) :
    Calls Tryz.prog 76 #[.pointer (some ⟨b, 0, none⟩), .int .u32 a, .int .i64 n] w fun e w' => e = .returned (.int .u32 (loadC C.data.toList c a n.toNat)) ∧ Below w.heap.size w w' := by
  have hbl := World.block_lt_of_cell? w _ hcode
  have hn : n = 1 ∨ n = 2 ∨ n = 4 := by unfold sizeB at hs; simp at hs; omega
  have HN := Lib.hid hn
  have n0 : 0 ≤ n := by omega
  have n4 : n ≤ 4 := by omega
  clear hn
  go_enter Tryz.func76, Tryz.ntmps76
  go_wp2
  go_loopw [7, 12] (fun v k wr => ∃ (i : Nat) (V : Int), (i : Int) ≤ n ∧ k = .int .u32 i ∧ v = .int .u32 V ∧ Hid (V + 256 ^ i * loadC C.data.toList c (a + i) (n.toNat - i) = loadC C.data.toList c a n.toNat ∧ 0 ≤ V ∧ V < 256 ^ i) ∧ Below w.heap.size w wr) (fun _ k _ => 4 - (intOf k).toNat)
  case atStart => exact ⟨0, 0, by omega, rfl, rfl, ⟨by simp, by omega, by simp⟩, Below.refl _ _⟩
  case round =>
    obtain ⟨i, V, hi, rfl, rfl, HV, hbr⟩ := hrel
    by_cases hlt2 : (i : Int) < n
    · have hr0 : 0 ≤ w32 (a + i) := by unfold w32; omega
      have hr1 : w32 (a + i) < 4294967296 := by unfold w32; omega
      have hcode' := (hbr.cell (p := ⟨b, 22, none⟩) hbl).trans hcode
      have hmem' := (hbr.cell (p := ⟨b, 23, none⟩) hbl).trans hmem
      have hmr := hm.below hbr hm.lt.1 hm.lt.2
      have he : IntKind.u32.wrap (a + i) = w32 (a + i) := wrap_u32 _
      have hld := fun wr (h : MemAt wr pm bm c) => load_any wr pm bm c (w32 (a + i)) 1 rfl h
      have hin := fun wr (h : wr.cell? ⟨b, 22, none⟩ = some (.string C)) => in_any wr b C (w32 (a + i)) h hC hr0 hr1
      have h1 : loadN c (w32 (a + i)) (Int.toNat 1) = getL c (w32 (a + i)) := by
        show getL c (w32 (w32 (a + i))) + 256 * 0 = _
        have : w32 (w32 (a + i)) = w32 (a + i) := by unfold w32; omega
        rw [this]; omega
      simp only [h1] at hld
      clear h1
      have hg := byteAt_bound (C := C.data.toList) hm.is.2 (w32 (a + i))
      generalize hx : w32 (a + i) = x at *
      generalize hy : byteAt C.data.toList c x = g at *
      have HX := Lib.hid hx
      have HY := Lib.hid hy
      clear hx
      obtain ⟨HV, V0, V1⟩ := HV.out
      have HV := Lib.hid HV
      have hv := or_step' V g i (by omega) V0 V1 hg.1 hg.2
      have hnew : Hid (V + 256 ^ i * g + 256 ^ (i + 1) * loadC C.data.toList c (a + ((i + 1 : Nat) : Int)) (n.toNat - (i + 1)) = loadC C.data.toList c a n.toNat ∧ 0 ≤ V + 256 ^ i * g ∧ V + 256 ^ i * g < 256 ^ (i + 1)) := by
        have e1 := HV.out
        obtain ⟨m, hm1⟩ : ∃ m, n.toNat - i = m + 1 := ⟨n.toNat - i - 1, by omega⟩
        have hm2 : n.toNat - (i + 1) = m := by omega
        rw [hm1, loadC, HX.out, HY.out] at e1
        rw [hm2]
        have e2 : a + (i : Int) + 1 = a + ((i + 1 : Nat) : Int) := by push_cast; omega
        rw [e2] at e1
        have hp : (256 : Int) ^ (i + 1) = 256 ^ i * 256 := Int.pow_succ _ _
        have p0 : (0 : Int) < 256 ^ i := Int.pow_pos (by omega)
        refine ⟨?_, ?_, ?_⟩
        · rw [hp, ← e1, Int.mul_add, Int.mul_assoc, Int.add_assoc]
        · have := Int.mul_nonneg (Int.le_of_lt p0) hg.1
          omega
        · rw [hp]
          have := Int.mul_le_mul_of_nonneg_left (show g ≤ 255 by omega) (Int.le_of_lt p0)
          omega
      clear HV V1
      generalize hV2 : V + 256 ^ i * g = V2 at hv hnew
      clear hV2
      have hi1 : ((i + 1 : Nat) : Int) ≤ n := by omega
      have hld := hld wr hmr
      by_cases hxC : x < C.size
      · have hxn : x.toNat < C.size := by omega
        have hxg := (bget hr0 hxn c).trans hy
        have hdec : decide (x < (C.size : Int)) = true := decide_eq_true hxC
        simp only [hdec] at hin
        have hk := hbr.size
        clear hy hmr
        have h4 : i = 0 ∨ i = 1 ∨ i = 2 ∨ i = 3 := by omega
        rcases h4 with rfl | rfl | rfl | rfl
        all_goals
          simp only [Int.cast_ofNat_Int, Int.add_zero, Int.mul_one, Int.reducePow] at he hv hlt2
          go_wp2_with fail
          ((with_reducible refine hld.mono ?_); rintro e w1 ⟨rfl, hb1⟩)
          clear hld
          have hcode1 := (hb1.cell (p := ⟨b, 22, none⟩) (Nat.lt_of_lt_of_le hbl hk)).trans hcode'
          clear hcode' hmem'
          have hin := hin w1 hcode1
          go_wp2_with fail
          ((with_reducible refine hin.mono ?_); rintro e w2 ⟨rfl, rfl⟩)
          clear hin
          go_wp2
          go_roundw
          case rel => exact ⟨_, V2, hi1, rfl, by first | rfl | rw [hv], hnew, hbr.trans (hb1.mono hk)⟩
          case measure => simp [intOf]
      · have hxg := (byte_far hxC c).trans hy
        have hdec : decide (x < (C.size : Int)) = false := decide_eq_false hxC
        simp only [hdec] at hin
        rw [hxg] at hld
        have hk := hbr.size
        clear hy hmr hxg
        have h4 : i = 0 ∨ i = 1 ∨ i = 2 ∨ i = 3 := by omega
        rcases h4 with rfl | rfl | rfl | rfl
        all_goals
          simp only [Int.cast_ofNat_Int, Int.add_zero, Int.mul_one, Int.reducePow] at he hv hlt2
          go_wp2_with fail
          ((with_reducible refine hld.mono ?_); rintro e w1 ⟨rfl, hb1⟩)
          clear hld
          have hcode1 := (hb1.cell (p := ⟨b, 22, none⟩) (Nat.lt_of_lt_of_le hbl hk)).trans hcode'
          clear hcode' hmem'
          have hin := hin w1 hcode1
          go_wp2_with fail
          ((with_reducible refine hin.mono ?_); rintro e w2 ⟨rfl, rfl⟩)
          clear hin
          go_wp2
          go_roundw
          case rel => exact ⟨_, V2, hi1, rfl, by first | rfl | rw [hv], hnew, hbr.trans (hb1.mono hk)⟩
          case measure => simp [intOf]
    · have e : i = n.toNat := by omega
      subst e
      have e := HV.out.1
      rw [Nat.sub_self, loadC, Int.mul_zero, Int.add_zero] at e
      subst e
      go_wp2
      go_ret
      exact ⟨rfl, hbr⟩
set_option maxRecDepth 100000 in
set_option maxHeartbeats 1000000 in
theorem byte1_any (w : World) (b : Nat) (c : Cells) (A : Option Addr) (cap : Nat) (C : ByteArray) (x : Int) (r0 : 0 ≤ x) (r1 : x < 4294967296) (hC : C.size ≤ 1000000)
    (hcode : w.cell? ⟨b, 0, none⟩ = some (.string C)) (hmem : w.cell? ⟨b, 22, none⟩ = some (.slice A c.length cap)) (h : ClAt w w.heap.size A c) (hl : c.length ≤ maxLen) (hr : InR c) :
    Calls Tryz.prog 88 #[.pointer (some ⟨b, 0, none⟩), .int .u32 x] w fun e w' => e = .returned (.int .u32 (byteAt C.data.toList c x)) ∧ w = w' := by
  have hg := byteAt_bound (C := C.data.toList) hr x
  by_cases hxC : x < C.size
  · have hxn : x.toNat < C.size := by omega
    have hxg := bget r0 hxn c
    generalize byteAt C.data.toList c x = g at *
    have hdec : decide (x < (C.size : Int)) = true := decide_eq_true hxC
    go_enter Tryz.func88, Tryz.ntmps88
    go_wp2
    go_ret
    refine ⟨?_, rfl⟩
    rw [← hxg]; rfl
  · have hxg := byte_far hxC c
    have hget := rGet_any c A cap x w h hl
    rw [hxg] at hget
    generalize byteAt C.data.toList c x = g at *
    have hdec : decide (x < (C.size : Int)) = false := decide_eq_false hxC
    go_enter Tryz.func88, Tryz.ntmps88
    go_wp2_with fail
    ((with_reducible refine hget.mono ?_); rintro e w1 ⟨rfl, rfl⟩)
    clear hget
    go_wp2
    go_ret
    exact ⟨rfl, rfl⟩
set_option maxRecDepth 100000 in
set_option maxHeartbeats 1000000 in
theorem xload_any (w : World) (b : Nat) (c : Cells) (A : Option Addr) (cap : Nat) (C : ByteArray) (a n : Int) (hs : sizeB n = true) (hC : C.size ≤ 1000000)
    (hcode : w.cell? ⟨b, 0, none⟩ = some (.string C)) (hmem : w.cell? ⟨b, 22, none⟩ = some (.slice A c.length cap)) (h : ClAt w w.heap.size A c) (hl : c.length ≤ maxLen) (hr : InR c) :
    Calls Tryz.prog 48 #[.pointer (some ⟨b, 0, none⟩), .int .u32 a, .int .i64 n] w fun e w' => e = .returned (.int .u32 (loadC C.data.toList c a n.toNat)) ∧ w = w' := by
  have hn : n = 1 ∨ n = 2 ∨ n = 4 := by unfold sizeB at hs; simp at hs; omega
  have HN := Lib.hid hn
  have n0 : 0 ≤ n := by omega
  have n4 : n ≤ 4 := by omega
  have hget := fun x r0 r1 => byte1_any w b c A cap C x r0 r1 hC hcode hmem h hl hr
  clear hn hcode hmem
  go_enter Tryz.func48, Tryz.ntmps48
  go_wp2
  go_loop [7, 8] (fun v k => ∃ (i : Nat) (V : Int), (i : Int) ≤ n ∧ k = .int .i64 (n - 1 - i) ∧ v = .int .u32 V ∧ Hid (V = loadC C.data.toList c (a + (n - i)) i)) (fun _ k => (intOf k + 1).toNat)
  case atStart => exact ⟨0, 0, by omega, by simp, rfl, Lib.hid rfl⟩
  case round =>
    obtain ⟨i, V, hi, rfl, rfl, HV⟩ := hrel
    have hb := loadC_bound C.data.toList c hr i (a + (n - i))
    rw [← HV.out] at hb
    by_cases hlt2 : (i : Int) < n
    · have hge : 0 ≤ n - 1 - (i : Int) := by omega
      have hg := byteAt_bound (C := C.data.toList) hr ((a + (n - 1 - (i : Int))) % 4294967296)
      have hstep : bits .or .u32 (V * 256 % 4294967296) (byteAt C.data.toList c ((a + (n - 1 - (i : Int))) % 4294967296)) = loadC C.data.toList c (a + (n - ((i + 1 : Nat) : Int))) (i + 1) := by
        have h4 : i = 0 ∨ i = 1 ∨ i = 2 ∨ i = 3 := by omega
        have hV : V * 256 < 4294967296 := by rcases h4 with rfl | rfl | rfl | rfl <;> simp at hb <;> omega
        have e1 : V * 256 % 4294967296 = V * 256 := by omega
        rw [e1, or_front' V _ hb.1 hg.1 hg.2 e1, loadC]
        have e2 : a + (n - ((i + 1 : Nat) : Int)) = a + (n - 1 - (i : Int)) := by push_cast; omega
        have e3 : a + (n - ((i + 1 : Nat) : Int)) + 1 = a + (n - (i : Int)) := by push_cast; omega
        rw [e3, ← HV.out, e2]
        unfold w32
        omega
      have HS := Lib.hid hstep
      clear hstep
      have hget := hget ((a + (n - 1 - (i : Int))) % 4294967296) (by omega) (by omega)
      go_wp2_with fail
      ((with_reducible refine hget.mono ?_); rintro e w' ⟨rfl, rfl⟩)
      clear hget
      go_wp2
      go_round
      case rel => exact ⟨i + 1, _, by omega, by congr 1; push_cast; omega, by rw [HS.out], Lib.hid rfl⟩
      case measure => simp [intOf]; omega
    · have e : i = n.toNat := by omega
      subst e
      have hle : ¬ 0 ≤ n - 1 - ((n.toNat : Nat) : Int) := by omega
      have e2 : a + (n - ((n.toNat : Nat) : Int)) = a := by omega
      rw [e2] at HV
      go_wp2
      go_ret
      exact ⟨by rw [HV.out]; rfl, rfl⟩
end Go.Proofs.YthbdmlcbdibiiaaGreatDoor
/- The machine's 'store'. -/
namespace Go.Proofs.YthbdmlcbdibiiaaGreatDoor
open Go.RowKit Go.Mem
set_option maxRecDepth 100000 in
theorem cell_us {w : World} {b : Nat} {us : List Value} {T : TypeId} (h : w.heap[b]? = some (.cells us.toArray T (0, 0))) {i : Nat} {v : Value} (hv : us[i]? = some v) : w.cell? ⟨b, i, none⟩ = some v := by
  simp [World.cell?, h, hv]
set_option maxRecDepth 100000 in
theorem frozen_us {w : World} {b : Nat} {us : List Value} {T : TypeId} (h : w.heap[b]? = some (.cells us.toArray T (0, 0))) (i : Nat) : w.frozen? ⟨b, i, none⟩ = false := by
  simp only [World.frozen?, h]; simp
set_option maxRecDepth 100000 in
theorem set_us {w : World} {b : Nat} {us : List Value} {T : TypeId} (h : w.heap[b]? = some (.cells us.toArray T (0, 0))) (i : Nat) (v : Value) : (w.setCell ⟨b, i, none⟩ v).heap[b]? = some (.cells (us.set i v).toArray T (0, 0)) := by
  simp only [World.setCell, Array.getElem?_modify, if_true, h]; simp
set_option maxRecDepth 100000 in
theorem grown_set {w w' : World} {b : Nat} (h : w.grownBy w' (some b)) (i : Nat) (v : Value) : w.grownBy (w'.setCell ⟨b, i, none⟩ v) (some b) := by
  refine ⟨h.os, h.tape, h.output, by simpa using h.size, fun k hk hne => ?_⟩
  rw [Below.heap_setCell _ _ _ _ (fun e => hne (by rw [e]))]
  exact h.block k hk hne
set_option maxRecDepth 100000 in
set_option maxHeartbeats 2000000 in
theorem mstore_any (w : World) (b pm bm : Nat) (c : Cells) (C : ByteArray) (us : List Value) (T : TypeId) (a n v : Int) (f : Bool) (hs : sizeB n = true) (v0 : 0 ≤ v) (v1 : v < 4294967296) (hC : C.size ≤ 1000000)
    (hb : w.heap[b]? = some (.cells us.toArray T (0, 0))) (h22 : us[22]? = some (.string C)) (h23 : us[23]? = some (.pointer (some ⟨pm, 0, none⟩))) (h25 : us[25]? = some (.bool f)) (hm : MemAt w pm bm c) (hne : b ≠ pm) (hne2 : b ≠ bm) :
    Calls Tryz.prog 122 #[.pointer (some ⟨b, 0, none⟩), .int .u32 a, .int .i64 n, .int .u32 v] w fun e w' => e = .returned (.tuple #[]) ∧
      w'.heap[b]? = some (.cells (us.set 25 (.bool (f || inC C.data.toList a n.toNat))).toArray T (0, 0)) ∧ MemAt w' pm bm (cond (f || inC C.data.toList a n.toNat) c (storeN c a v n.toNat)) ∧
      w'.os = w.os ∧ w'.tape = w.tape ∧ w'.output = w.output ∧ w.heap.size ≤ w'.heap.size ∧ ∀ q, q < w.heap.size → q ≠ b → q ≠ bm → w'.heap[q]? = w.heap[q]? := by
  have hn : n = 1 ∨ n = 2 ∨ n = 4 := by unfold sizeB at hs; simp at hs; omega
  have n0 : 0 ≤ n := by omega
  have n4 : n ≤ 4 := by omega
  clear hn
  have hbl : b < w.heap.size := (Array.getElem?_eq_some_iff.1 hb).1
  have hin := fun (W : World) (x : Int) (r0 : 0 ≤ x) (r1 : x < 4294967296) (h : W.cell? ⟨b, 22, none⟩ = some (.string C)) => in_any W b C x h hC r0 r1
  have hsz : C.data.toList.length = C.size := rfl
  go_enter Tryz.func122, Tryz.ntmps122
  go_wp2
  go_loopw [11] (fun k wr => ∃ (i : Nat) (fi : Bool), (i : Int) ≤ n ∧ k = .int .u32 i ∧ Hid ((fi || inC C.data.toList (a + i) (n.toNat - i)) = (f || inC C.data.toList a n.toNat)) ∧ wr.heap[b]? = some (.cells (us.set 25 (.bool fi)).toArray T (0, 0)) ∧ w.grownBy wr (some b)) (fun k _ => 4 - (intOf k).toNat)
  case atStart => 
    have e : us.set 25 (.bool f) = us := by
      obtain ⟨h1, h2⟩ := List.getElem?_eq_some_iff.1 h25
      rw [← h2]; exact List.set_getElem_self h1
    exact ⟨0, f, by omega, rfl, Lib.hid (by simp), by rw [e]; exact hb, World.grownBy.refl _ _⟩
  case round =>
    obtain ⟨i, fi, hi, rfl, HV, hbr, hgr⟩ := hrel
    have hl25 : 25 < us.length := (List.getElem?_eq_some_iff.1 h25).1
    have c22 : wr.cell? ⟨b, 22, none⟩ = some (.string C) := cell_us hbr (by rw [List.getElem?_set_ne (by decide)]; exact h22)
    have c25 : wr.cell? ⟨b, 25, none⟩ = some (.bool fi) := cell_us hbr (by rw [List.getElem?_set_self hl25])
    have z25 := frozen_us hbr 25
    by_cases hlt2 : (i : Int) < n
    · have he : IntKind.u32.wrap (a + i) = w32 (a + i) := wrap_u32 _
      have hin := hin wr (w32 (a + i)) (by unfold w32; omega) (by unfold w32; omega) c22
      have hi1 : ((i + 1 : Nat) : Int) ≤ n := by omega
      have hnew : Hid (((fi || decide (w32 (a + i) < (C.size : Int))) || inC C.data.toList (a + ((i + 1 : Nat) : Int)) (n.toNat - (i + 1))) = (f || inC C.data.toList a n.toNat)) := by
        have e1 := HV.out
        obtain ⟨m, hm1⟩ : ∃ m, n.toNat - i = m + 1 := ⟨n.toNat - i - 1, by omega⟩
        have hm2 : n.toNat - (i + 1) = m := by omega
        rw [hm1, inC, hsz] at e1
        rw [hm2]
        have e2 : a + (i : Int) + 1 = a + ((i + 1 : Nat) : Int) := by push_cast; omega
        rw [e2] at e1
        rw [Bool.or_assoc]
        exact e1
      have hst := fun x => set_us hbr 25 (.bool x)
      have hgs := fun x => grown_set hgr 25 (.bool x)
      simp only [List.set_set] at hst
      clear HV hbr
      generalize hx : w32 (a + i) = x at *
      clear hx
      generalize hd : decide (x < (C.size : Int)) = d at *
      clear hd
      cases fi with
      | true =>
        clear hin
        simp only [Bool.true_or] at hnew
        go_wp2
        go_roundw
        case rel => exact ⟨i + 1, true, hi1, by go_num, by simpa only [Bool.true_or] using hnew, hst true, hgs true⟩
        case measure => simp [intOf]; omega
      | false =>
        go_wp2_with fail
        ((with_reducible refine hin.mono ?_); rintro e w2 ⟨rfl, rfl⟩)
        clear hin
        go_wp2
        go_roundw
        case rel => exact ⟨i + 1, d, hi1, by go_num, by simpa only [Bool.false_or] using hnew, hst d, hgs d⟩
        case measure => simp [intOf]; omega
    · have e : i = n.toNat := by omega
      subst e
      have e := HV.out
      rw [Nat.sub_self, inC, Bool.or_false] at e
      have E := Lib.hid e
      clear e HV hin
      have c23 : wr.cell? ⟨b, 23, none⟩ = some (.pointer (some ⟨pm, 0, none⟩)) := cell_us hbr (by rw [List.getElem?_set_ne (by decide)]; exact h23)
      have hmr := hm.kept hgr (fun e => hne (by cases e; rfl)) (fun e => hne2 (by cases e; rfl))
      cases fi with
      | true =>
        go_wp2
        refine bodyPost_end (results_none rfl _ _ _) rfl ?_
        rw [← E.out]
        exact ⟨rfl, hbr, hmr, hgr.os, hgr.tape, hgr.output, hgr.size, fun q hq h1 _ => hgr.block q hq (fun e => h1 (by cases e; rfl))⟩
      | false =>
        have hst := store_any wr pm bm c a n v hs v0 v1 hmr
        go_wp2_with fail
        ((with_reducible refine hst.mono ?_); rintro e w2 ⟨rfl, hm2, hg2⟩)
        clear hst
        go_wp2
        refine bodyPost_end (results_none rfl _ _ _) rfl ?_
        rw [← E.out]
        exact ⟨rfl, (hg2.block b (Nat.lt_of_lt_of_le hbl hgr.size) (fun e => hne2 (by cases e; rfl))).trans hbr, hm2, hg2.os.trans hgr.os, hg2.tape.trans hgr.tape, hg2.output.trans hgr.output, Nat.le_trans hgr.size hg2.size,
          fun q hq h1 h2 => (hg2.block q (Nat.lt_of_lt_of_le hq hgr.size) (fun e => h2 (by cases e; rfl))).trans (hgr.block q hq (fun e => h1 (by cases e; rfl)))⟩
end Go.Proofs.YthbdmlcbdibiiaaGreatDoor
/- The reference's 'store'. -/
namespace Go.Proofs.YthbdmlcbdibiiaaGreatDoor
open Go.RowKit Go.Mem
set_option maxRecDepth 100000 in
theorem ClAt.set_far {w : World} {A : Option Addr} {c : Cells} {b : Nat} (h : ClAt w w.heap.size A c) (hne : c ≠ [] → ∀ a, A = some a → a.block ≠ b) (i : Nat) (v : Value) : ClAt (w.setCell ⟨b, i, none⟩ v) (w.setCell ⟨b, i, none⟩ v).heap.size A c := by
  intro hn
  obtain ⟨g, off, e, hg, hc⟩ := h hn
  have hb := hne hn _ e
  refine ⟨g, off, e, by simpa using hg, fun j p hp => ?_⟩
  have hs : (w.setCell ⟨b, i, none⟩ v).heap[g]? = w.heap[g]? := Below.heap_setCell _ _ _ _ hb
  obtain ⟨c1, c2⟩ := hc j p hp
  exact ⟨(World.cell?_of_block (a := ⟨g, off + j * 2, none⟩) hs).trans c1, (World.cell?_of_block (a := ⟨g, off + j * 2 + 1, none⟩) hs).trans c2⟩
set_option maxRecDepth 100000 in
theorem grown_below {w w' w2 : World} {b : Nat} (h : w.grownBy w' (some b)) (hb : Below w'.heap.size w' w2) : w.grownBy w2 (some b) :=
  ⟨hb.os.trans h.os, hb.tape.trans h.tape, hb.output.trans h.output, Nat.le_trans h.size hb.size, fun k hk hne => (hb.block k (Nat.lt_of_lt_of_le hk h.size)).trans (h.block k hk hne)⟩
set_option maxRecDepth 100000 in
set_option maxHeartbeats 2000000 in
theorem xstore_any (w : World) (b : Nat) (c : Cells) (A : Option Addr) (cap : Nat) (C : ByteArray) (us : List Value) (T : TypeId) (a n v : Int) (f : Bool) (hs : sizeB n = true) (v0 : 0 ≤ v) (v1 : v < 4294967296) (hC : C.size ≤ 1000000)
    (hb : w.heap[b]? = some (.cells us.toArray T (0, 0))) (h0 : us[0]? = some (.string C)) (h22 : us[22]? = some (.slice A c.length cap)) (h23 : us[23]? = some (.bool f)) (h : ClAt w w.heap.size A c) (hne : c ≠ [] → ∀ a, A = some a → a.block ≠ b) (hcan : Canon c) (hr : InR c) :
    Calls Tryz.prog 85 #[.pointer (some ⟨b, 0, none⟩), .int .u32 a, .int .i64 n, .int .u32 v] w fun e w' => e = .returned (.tuple #[]) ∧
      ∃ A' cap', w'.heap[b]? = some (.cells ((us.set 23 (.bool (f || inC C.data.toList a n.toNat))).set 22 (.slice A' (storeP C.data.toList c a v n.toNat).length cap')).toArray T (0, 0)) ∧ ClAt w' w'.heap.size A' (storeP C.data.toList c a v n.toNat) ∧
        (inC C.data.toList a 1 = true → A' = A ∧ cap' = cap) ∧ (inC C.data.toList a 1 = false → NewA w.heap.size (storeP C.data.toList c a v n.toNat) A') ∧ w.grownBy w' (some b) := by
  have hn : n = 1 ∨ n = 2 ∨ n = 4 := by unfold sizeB at hs; simp at hs; omega
  have n0 : 0 < n := by omega
  have n4 : n ≤ 4 := by omega
  clear hn
  have hbl : b < w.heap.size := (Array.getElem?_eq_some_iff.1 hb).1
  have hsz : C.data.toList.length = C.size := rfl
  have l22 : 22 < us.length := (List.getElem?_eq_some_iff.1 h22).1
  have e22 : us.set 22 (.slice A c.length cap) = us := by
    obtain ⟨h1, h2⟩ := List.getElem?_eq_some_iff.1 h22
    rw [← h2]; exact List.set_getElem_self h1
  have e23 : us.set 23 (.bool f) = us := by
    obtain ⟨h1, h2⟩ := List.getElem?_eq_some_iff.1 h23
    rw [← h2]; exact List.set_getElem_self h1
  go_enter Tryz.func85, Tryz.ntmps85
  go_wp2
  go_loopw [3, 8, 9] (fun u k _ wr => ∃ (i : Nat) (c' : Cells) (A' : Option Addr) (cap' : Nat) (V : Int), (i : Int) ≤ n ∧ k = .int .i64 i ∧ u = .int .u32 V ∧ 0 ≤ V ∧ V < 4294967296 ∧ Canon c' ∧ InR c' ∧
    wr.heap[b]? = some (.cells (us.set 22 (.slice A' c'.length cap')).toArray T (0, 0)) ∧ ClAt wr wr.heap.size A' c' ∧ (c' ≠ [] → ∀ a, A' = some a → a.block ≠ b) ∧ (i = 0 → A' = A ∧ cap' = cap) ∧ (0 < i → NewA w.heap.size c' A' ∧ inC C.data.toList a 1 = false) ∧
    Hid (storeP C.data.toList c' (a + i) V (n.toNat - i) = storeP C.data.toList c a v n.toNat) ∧ Hid (inC C.data.toList (a + i) (n.toNat - i) = inC C.data.toList a n.toNat) ∧ w.grownBy wr (some b)) (fun _ k _ _ => (n - intOf k).toNat)
  case atStart => exact ⟨0, c, A, cap, v, by omega, rfl, rfl, v0, v1, hcan, hr, by rw [e22]; exact hb, h, hne, fun _ => ⟨rfl, rfl⟩, fun h => absurd h (by omega), Lib.hid (by simp), Lib.hid (by simp), World.grownBy.refl _ _⟩
  case round =>
    obtain ⟨i, c', A', cap', V, hi, rfl, rfl, hV0, hV1, hcan', hr', hbr, hcl, hfar, hi0, hiN, HS, HI, hgr⟩ := hrel
    have c0 : wr.cell? ⟨b, 0, none⟩ = some (.string C) := cell_us hbr (by rw [List.getElem?_set_ne (by decide)]; exact h0)
    have c22 : wr.cell? ⟨b, 22, none⟩ = some (.slice A' c'.length cap') := cell_us hbr (by rw [List.getElem?_set_self l22])
    have c23 : wr.cell? ⟨b, 23, none⟩ = some (.bool f) := cell_us hbr (by rw [List.getElem?_set_ne (by decide)]; exact h23)
    have z22 := frozen_us hbr 22
    have z23 := frozen_us hbr 23
    by_cases hlt2 : (i : Int) < n
    · obtain ⟨m, hm1⟩ : ∃ m, n.toNat - i = m + 1 := ⟨n.toNat - i - 1, by omega⟩
      have hm2 : n.toNat - (i + 1) = m := by omega
      have s1 := HS.out
      have s2 := HI.out
      rw [hm1] at s1 s2
      rw [storeP, hsz] at s1
      rw [inC, hsz] at s2
      have e2 : a + (i : Int) + 1 = a + ((i + 1 : Nat) : Int) := by push_cast; omega
      rw [e2] at s1 s2
      have he : (a + (i : Int)) % 4294967296 = w32 (a + i) := rfl
      have hx0 : 0 ≤ w32 (a + i) := by unfold w32; omega
      have hx1 : w32 (a + i) < 4294967296 := by unfold w32; omega
      have hone : inC C.data.toList a 1 = decide (w32 a < (C.size : Int)) := by rw [inC, inC, Bool.or_false, hsz]
      by_cases hxC : w32 (a + i) < (C.size : Int)
      · rw [if_pos hxC] at s1
        rw [decide_eq_true hxC, Bool.true_or] at s2
        have S1 := Lib.hid s1
        have S2 := Lib.hid s2
        have hst := set_us hbr 23 (.bool true)
        have hgs := grown_set hgr 23 (.bool true)
        have hcs := hcl.set_far hfar 23 (.bool true)
        rw [List.set_comm _ _ (by decide)] at hst
        have hold : inC C.data.toList a 1 = true → A' = A ∧ cap' = cap := by
          intro h1
          rcases Nat.eq_zero_or_pos i with h | h
          · exact hi0 h
          · rw [(hiN h).2] at h1; cases h1
        have hnew : inC C.data.toList a 1 = false → NewA w.heap.size c' A' := by
          intro h1
          rcases Nat.eq_zero_or_pos i with h | h
          · subst h
            rw [hone] at h1
            simp only [Int.cast_ofNat_Int, Int.add_zero] at hxC
            rw [decide_eq_true hxC] at h1; cases h1
          · exact (hiN h).1
        clear HS HI s1 s2 hi0 hiN hm1 hm2 hone
        generalize w32 (a + i) = x at *
        go_wp2
        refine bodyPost_ret (results_none rfl _ _ _) rfl ?_
        rw [← S1.out, ← S2.out, Bool.or_true]
        exact ⟨rfl, A', cap', hst, hcs, hold, hnew, hgs⟩
      · rw [if_neg hxC] at s1
        rw [decide_eq_false hxC, Bool.false_or] at s2
        have hput := rPutN c' A' cap' (w32 (a + i)) (V % 256) wr hcl (length_le hcan' hr')
        have hcan2 := canon_put hcan' (w32 (a + i)) (V % 256)
        have hr2 := hr'.put (b := V % 256) hx0 hx1 (by omega) (by omega)
        have hS2 : Hid (storeP C.data.toList (putL c' (w32 (a + i)) (V % 256)) (a + ((i + 1 : Nat) : Int)) (V / 256) (n.toNat - (i + 1)) = storeP C.data.toList c a v n.toNat) := by rw [hm2]; exact Lib.hid s1
        have hI2 : Hid (inC C.data.toList (a + ((i + 1 : Nat) : Int)) (n.toNat - (i + 1)) = inC C.data.toList a n.toNat) := by rw [hm2]; exact Lib.hid s2
        have hno : inC C.data.toList a 1 = false := by
          rcases Nat.eq_zero_or_pos i with h | h
          · subst h
            rw [hone]
            simp only [Int.cast_ofNat_Int, Int.add_zero] at hxC
            exact decide_eq_false hxC
          · exact (hiN h).2
        have hi1 : ((i + 1 : Nat) : Int) ≤ n := by omega
        have hws := hgr.size
        clear HS HI s1 s2 hi0 hiN hm1 hm2 hone
        generalize w32 (a + i) = x at *
        go_wp2_with fail
        ((with_reducible refine hput.mono ?_); rintro e w2 ⟨A2, cap2, rfl, hA2, hN2, hb2⟩)
        clear hput
        have hbr2 := (hb2.block b (Nat.lt_of_lt_of_le hbl hws)).trans hbr
        have z22' := frozen_us hbr2 22
        have hblk : wr.cell? ⟨b, 22, none⟩ = w2.cell? ⟨b, 22, none⟩ := (World.cell?_of_block (a := ⟨b, 22, none⟩) (hb2.block b (Nat.lt_of_lt_of_le hbl hws))).symm
        have c22' : w2.cell? ⟨b, 22, none⟩ = some (.slice A' c'.length cap') := hblk.symm.trans c22
        have hst := set_us hbr2 22 (.slice A2 (putL c' x (V % 256)).length cap2)
        rw [List.set_set] at hst
        have hfar2 : putL c' x (V % 256) ≠ [] → ∀ a, A2 = some a → a.block ≠ b := by
          intro h1 a2 h2
          obtain ⟨a3, h3, h4⟩ := hN2 h1
          rw [h2] at h3
          simp only [Option.some.injEq] at h3
          subst h3
          omega
        have hcs := hA2.set_far hfar2 22 (.slice A2 (putL c' x (V % 256)).length cap2)
        have hgs := grown_set (grown_below hgr hb2) 22 (.slice A2 (putL c' x (V % 256)).length cap2)
        have hnn : NewA w.heap.size (putL c' x (V % 256)) A2 := fun h1 => (hN2 h1).imp fun a3 h3 => ⟨h3.1, Nat.le_trans hws h3.2⟩
        clear hbr hblk hbr2
        go_wp2
        go_roundw
        case rel => exact ⟨i + 1, _, A2, cap2, V / 256, hi1, by go_num, rfl, by omega, by omega, hcan2, hr2, hst, hcs, hfar2, fun h => absurd h (by omega), fun _ => ⟨hnn, hno⟩, hS2, hI2, hgs⟩
        case measure => simp [intOf]; omega
    · obtain rfl : n = (i : Int) := by omega
      have s1 := HS.out
      have s2 := HI.out
      rw [Int.toNat_natCast, Nat.sub_self] at s1 s2
      rw [storeP] at s1
      rw [inC] at s2
      have S1 := Lib.hid s1
      have S2 := Lib.hid s2
      have HN := Lib.hid (hiN (by omega))
      clear HS HI s1 s2 hi0 hiN
      go_wp2
      refine bodyPost_end (results_none rfl _ _ _) rfl ?_
      try rw [Int.toNat_natCast]
      rw [← S1.out, ← S2.out, Bool.or_false, e23]
      exact ⟨rfl, A', cap', hbr, hcl, fun h1 => (by rw [HN.out.2] at h1; cases h1), fun _ => HN.out.1, hgr⟩
end Go.Proofs.YthbdmlcbdibiiaaGreatDoor
/- The machine's and the reference's loads and stores, as specs of data. -/
namespace Go.Proofs.YthbdmlcbdibiiaaGreatDoor
open Go.RowKit Go.Mem Go.Sx
def nthT : Nat → Tm → Tm
  | 0, .cons a _ => a
  | i + 1, .cons _ r => nthT i r
  | i, t => .op1 (.nth i) t
set_option maxRecDepth 100000 in
theorem nthT_den (ρ : Env) : ∀ (i : Nat) (t : Tm), (nthT i t).den ρ = (t.den ρ).asList.getD i (.int 0)
  | 0, .cons a _ => by simp [nthT, Tm.den]
  | i + 1, .cons _ r => by rw [nthT, nthT_den ρ i r]; simp [Tm.den]
  | 0, .var _ | 0, .num _ | 0, .bit _ | 0, .text _ | 0, .op1 _ _ | 0, .op2 _ _ _ | 0, .ite _ _ _ | 0, .nil | 0, .app _ _ => rfl
  | _ + 1, .var _ | _ + 1, .num _ | _ + 1, .bit _ | _ + 1, .text _ | _ + 1, .op1 _ _ | _ + 1, .op2 _ _ _ | _ + 1, .ite _ _ _ | _ + 1, .nil | _ + 1, .app _ _ => rfl
def get (ss : List Sc) (i : Nat) : Sc := ss.getD i (.int 0)
def L4 (a b c d : Tm) : Tm := .cons a (.cons b (.cons c (.cons d .nil)))
def L3 (a b c : Tm) : Tm := .cons a (.cons b (.cons c .nil))
def L5 (a b c d e : Tm) : Tm := .cons a (.cons b (.cons c (.cons d (.cons e .nil))))
structure MSigns (ρ : Env) : Prop where
  s700 : ∀ ss, ρ.f 700 ss = newSc ss
  s710 : ∀ ss, ρ.f 710 ss = .int (w32 (loadC (get ss 0).asStr (scCl (get ss 1)) (get ss 2).asInt (get ss 3).asInt.toNat))
  s711 : ∀ ss, ρ.f 711 ss = .bool (inC (get ss 0).asStr (get ss 1).asInt (get ss 2).asInt.toNat)
  s712 : ∀ ss, ρ.f 712 ss = clSc (storeN (scCl (get ss 0)) (get ss 1).asInt (get ss 3).asInt (get ss 2).asInt.toNat)
  s715 : ∀ ss, ρ.f 715 ss = clSc (storeP (get ss 0).asStr (scCl (get ss 1)) (get ss 2).asInt (get ss 4).asInt (get ss 3).asInt.toNat)
set_option maxRecDepth 100000 in
theorem allOk_at {ρ : Env} {w : World} : ∀ {ps : List AP} {ss : List Sc} {vs : List Value} {i : Nat} {p : AP}, AllOk ρ w ps ss vs → ps[i]? = some p → ∃ s v, ss[i]? = some s ∧ vs[i]? = some v ∧ p.Ok ρ w s v
  | [], _, _, _, _, _, hp => by simp at hp
  | p :: ps, s :: ss, v :: vs, 0, q, h, hp => by simp at hp; subst hp; exact ⟨s, v, rfl, rfl, h.1⟩
  | p :: ps, s :: ss, v :: vs, i + 1, q, h, hp => by
    obtain ⟨s', v', h1, h2, h3⟩ := allOk_at (i := i) h.2 (by simpa using hp)
    exact ⟨s', v', by simpa using h1, by simpa using h2, h3⟩
  | _ :: _, [], [], _, _, h, _ => h.elim
  | _ :: _, [], _ :: _, _, _, h, _ => h.elim
  | _ :: _, _ :: _, [], _, _, h, _ => h.elim
set_option maxRecDepth 100000 in
theorem getD_of {ss : List Sc} {i : Nat} {s : Sc} (h : ss[i]? = some s) : ss.getD i (.int 0) = s := by rw [List.getD_eq_getElem?_getD, h]; rfl
def regsAP : List AP := List.replicate 16 (.int .u32)
def cpsM (k : Nat) : List AP := regsAP ++ [.bool, .bool, .bool, .bool, .int .i64, .dat k, .svar, .dat 100, .int .u32, .bool]
def cpsX : List AP := .svar :: regsAP ++ [.bool, .bool, .bool, .bool, .int .i64, .dat 2, .bool]
set_option maxRecDepth 100000 in
theorem sz_of (l : List UInt8) : (⟨l.toArray⟩ : ByteArray).size = l.length := by simp [ByteArray.size]
set_option maxRecDepth 100000 in
theorem u32_of {n : Int} (h : kHas .u32 n) : 0 ≤ n ∧ n < 4294967296 := h
set_option maxRecDepth 100000 in
theorem size_of {n : Int} (h : n = 1 ∨ n = 2 ∨ n = 4) : sizeB n = true := by rcases h with rfl | rfl | rfl <;> rfl
section
variable {B : Nat → Prop} {ρ : Env}
set_option maxRecDepth 100000 in
theorem mem_of (hab : ρ.ab = mchAbs B) {d : Sc} {v : Value} {F : Nat → Prop} {w : World} (h : ρ.ab.P 100 d v F w) : MemP d v F w := by
  rw [hab] at h
  rcases h with ⟨h, _⟩ | ⟨_, ⟨_, h⟩ | ⟨h, _⟩⟩
  · omega
  · exact h
  · exact absurd (rowK_ge h) (by omega)
set_option maxRecDepth 100000 in
theorem row_of (hab : ρ.ab = mchAbs B) {d : Sc} {v : Value} {F : Nat → Prop} {w : World} {k : Nat} (hk : k < 100) (h : ρ.ab.P k d v F w) : RowP k d v F w := by
  rw [hab] at h
  rcases h with ⟨_, h⟩ | ⟨h, _⟩
  · exact h
  · omega
set_option maxRecDepth 100000 in
theorem mcells (hab : ρ.ab = mchAbs B) {k : Nat} {cs : List Sc} {us : List Value} {w : World} (h : AllOk ρ w (cpsM k) cs us) :
    ∃ (code : Sc) (f : Sc), cs[22]? = some code ∧ us[22]? = some (.string ⟨code.asStr.toArray⟩) ∧ code.asStr.length ≤ 1000000 ∧ cs[25]? = some f ∧ us[25]? = some (.bool f.asBool) ∧
      ∃ (d : Sc) (pm bm : Nat) (c : Cells), cs[23]? = some d ∧ us[23]? = some (.pointer (some ⟨pm, 0, none⟩)) ∧ d = clSc c ∧ MemAt w pm bm c := by
  obtain ⟨s1, v1, a1, a2, rfl, a4⟩ := allOk_at (i := 22) (p := .svar) h rfl
  obtain ⟨s2, v2, b1, b2, rfl⟩ := allOk_at (i := 25) (p := .bool) h rfl
  obtain ⟨s3, v3, c1, c2, F, hP⟩ := allOk_at (i := 23) (p := .dat 100) h rfl
  obtain ⟨pm, bm, c, rfl, rfl, hm, _⟩ := mem_of hab hP
  exact ⟨s1, s2, a1, a2, a4, b1, b2, _, pm, bm, c, c1, c2, rfl, hm⟩
set_option maxRecDepth 100000 in
theorem xcells (hab : ρ.ab = mchAbs B) {cs : List Sc} {us : List Value} {w : World} (h : AllOk ρ w cpsX cs us) :
    ∃ (code : Sc) (f : Sc), cs[0]? = some code ∧ us[0]? = some (.string ⟨code.asStr.toArray⟩) ∧ code.asStr.length ≤ 1000000 ∧ cs[23]? = some f ∧ us[23]? = some (.bool f.asBool) ∧
      ∃ (c : Cells) (A : Option Addr) (cap : Nat), cs[22]? = some (clSc c) ∧ us[22]? = some (.slice A c.length cap) ∧ ClAt w w.heap.size A c ∧ InR c ∧ c.length ≤ 4294967296 := by
  obtain ⟨s1, v1, a1, a2, rfl, a4⟩ := allOk_at (i := 0) (p := .svar) h rfl
  obtain ⟨s2, v2, b1, b2, rfl⟩ := allOk_at (i := 23) (p := .bool) h rfl
  obtain ⟨s3, v3, c1, c2, F, hP⟩ := allOk_at (i := 22) (p := .dat 2) h rfl
  obtain ⟨c, A, cap, rfl, rfl, h1, h2, ⟨h3, _⟩, _⟩ := row_of hab (by omega) hP
  exact ⟨s1, s2, a1, a2, a4, b1, b2, c, A, cap, c1, c2, h1, h2, h3⟩
set_option maxRecDepth 100000 in
theorem two_of {w : World} {p q : AP} {ss : List Sc} {vs : List Value} (h : AllOk ρ w [p, q] ss vs) : ∃ s1 s2 v1 v2, ss = [s1, s2] ∧ vs = [v1, v2] ∧ p.Ok ρ w s1 v1 ∧ q.Ok ρ w s2 v2 := by
  match ss, vs, h with
  | [s1, s2], [v1, v2], h => exact ⟨s1, s2, v1, v2, rfl, rfl, h.1, h.2.1⟩
  | [], [], h => exact h.elim
  | [], _ :: _, h => exact h.elim
  | _ :: _, [], h => exact h.elim
  | [_], [_], h => exact h.2.elim
  | [_], _ :: _ :: _, h => exact h.2.elim
  | _ :: _ :: _, [_], h => exact h.2.elim
  | [_, _], _ :: _ :: _ :: _, h => exact h.2.2.elim
  | _ :: _ :: _ :: _, [_, _], h => exact h.2.2.elim
  | _ :: _ :: _ :: _, _ :: _ :: _ :: _, h => exact h.2.2.elim
set_option maxRecDepth 100000 in
theorem one_of {w : World} {p : AP} {ss : List Sc} {vs : List Value} (h : AllOk ρ w [p] ss vs) : ∃ s1 v1, ss = [s1] ∧ vs = [v1] ∧ p.Ok ρ w s1 v1 := by
  match ss, vs, h with
  | [s1], [v1], h => exact ⟨s1, v1, rfl, rfl, h.1⟩
  | [], [], h => exact h.elim
  | [], _ :: _, h => exact h.elim
  | _ :: _, [], h => exact h.elim
  | [_], _ :: _ :: _, h => exact h.2.elim
  | _ :: _ :: _, [_], h => exact h.2.elim
  | _ :: _ :: _, _ :: _ :: _, h => exact h.2.elim
set_option maxRecDepth 100000 in
theorem three_of {w : World} {p q r : AP} {ss : List Sc} {vs : List Value} (h : AllOk ρ w [p, q, r] ss vs) : ∃ s1 s2 s3 v1 v2 v3, ss = [s1, s2, s3] ∧ vs = [v1, v2, v3] ∧ p.Ok ρ w s1 v1 ∧ q.Ok ρ w s2 v2 ∧ r.Ok ρ w s3 v3 := by
  match ss, vs, h with
  | s1 :: ss, v1 :: vs, h =>
    obtain ⟨s2, s3, v2, v3, rfl, rfl, h2, h3⟩ := two_of h.2
    exact ⟨s1, s2, s3, v1, v2, v3, rfl, rfl, h.1, h2, h3⟩
  | [], [], h => exact h.elim
  | [], _ :: _, h => exact h.elim
  | _ :: _, [], h => exact h.elim
set_option maxRecDepth 100000 in
theorem load_small {C : List UInt8} {c : Cells} (h : InR c) {n a : Int} (hn : n = 1 ∨ n = 2 ∨ n = 4) : IntKind.u32.wrap (w32 (loadC C c a n.toNat)) = loadC C c a n.toNat := by
  have := loadC_bound C c h n.toNat a
  have w : ∀ x, IntKind.u32.wrap x = x % 4294967296 := fun _ => rfl
  rw [w]
  unfold w32
  rcases hn with rfl | rfl | rfl <;> simp at this ⊢ <;> omega
def loadR (i j : Nat) : Tm → Tm → SVal := fun c t => .int .u32 (mk1 (.conv .u32) (.app 710 (L4 (nthT i c) (nthT j c) (nthT 0 t) (nthT 1 t))))
set_option maxRecDepth 100000 in
theorem loadR_conc (S : MSigns ρ) {i j : Nat} {c t : Tm} {ι : Nm} {cs ss : List Sc} (hc : (c.den ρ).asList = cs) (ht : (t.den ρ).asList = ss) {code s1 s2 : Sc} {cl : Cells} (h1 : cs[i]? = some code) (h2 : cs[j]? = some (clSc cl)) (h3 : ss[0]? = some s1) (h4 : ss[1]? = some s2)
    (hr : InR cl) (hn : s2.asInt = 1 ∨ s2.asInt = 2 ∨ s2.asInt = 4) : (loadR i j c t).conc ρ ι = .int .u32 (loadC code.asStr cl s1.asInt s2.asInt.toNat) := by
  simp only [loadR, SVal.conc, mk1_den, Op1.ev, Sc.asInt_int, Tm.den, L4, S.s710, get, nthT_den, hc, ht, Sc.asList_list, List.getD_cons_zero, List.getD_cons_succ, getD_of h1, getD_of h2, getD_of h3, getD_of h4, scCl_cl]
  rw [load_small hr hn]
set_option maxRecDepth 100000 in
theorem mload_spec {cx : Cx} (hP : cx.P = Tryz.prog) (V : VarsOk ρ) (N : NilOk ρ) (hab : ρ.ab = mchAbs B) (S : MSigns ρ) (k : Nat) :
    ∀ args h pc x, (pc.den ρ).asBool = true → (specObj 78 (cpsM k) [.int .u32, .size] (loadR 22 23) args h pc).get ρ = some x → CallOk ρ cx.globs cx.P 76 args h x := by
  refine specObj_ok V N (fun _ _ => rfl) ?_
  intro b cs us ss vs w hw hc hs
  obtain ⟨code, f, a1, a2, a3, _, _, d, pm, bm, c, d1, d2, rfl, hm⟩ := mcells hab hc
  obtain ⟨s1, s2, v1, v2, rfl, rfl, ⟨rfl, _⟩, rfl, hn⟩ := two_of hs
  rw [hP]
  refine (mload_any w b pm bm c ⟨code.asStr.toArray⟩ s1.asInt s2.asInt (size_of hn) (by rw [sz_of]; exact a3) (cell_us hw a2) (cell_us hw d2) hm).mono ?_
  rintro e w' ⟨rfl, hb⟩
  refine ⟨hb, fun ct tt ι hct htt => ?_⟩
  rw [loadR_conc S hct htt a1 d1 rfl rfl hm.is.2 hn]
set_option maxRecDepth 100000 in
theorem xload_spec {cx : Cx} (hP : cx.P = Tryz.prog) (V : VarsOk ρ) (N : NilOk ρ) (hab : ρ.ab = mchAbs B) (S : MSigns ρ) :
    ∀ args h pc x, (pc.den ρ).asBool = true → (specObj 60 cpsX [.int .u32, .size] (loadR 0 22) args h pc).get ρ = some x → CallOk ρ cx.globs cx.P 48 args h x := by
  refine specObj_ok V N (fun _ _ => rfl) ?_
  intro b cs us ss vs w hw hc hs
  obtain ⟨code, f, a1, a2, a3, _, _, c, A, cap, d1, d2, hcl, hr, hl⟩ := xcells hab hc
  obtain ⟨s1, s2, v1, v2, rfl, rfl, ⟨rfl, _⟩, rfl, hn⟩ := two_of hs
  rw [hP]
  refine (xload_any w b c A cap ⟨code.asStr.toArray⟩ s1.asInt s2.asInt (size_of hn) (by rw [sz_of]; exact a3) (cell_us hw a2) (cell_us hw d2) hcl (by unfold maxLen; omega) hr).mono ?_
  rintro e w' ⟨rfl, rfl⟩
  refine ⟨Below.refl _ _, fun ct tt ι hct htt => ?_⟩
  rw [loadR_conc S hct htt a1 d1 rfl rfl hr hn]
def byteR : Tm → Tm → SVal := fun c t => loadR 0 22 c (.cons (nthT 0 t) (.cons (.num 1) .nil))
set_option maxRecDepth 100000 in
theorem byte1_spec {cx : Cx} (hP : cx.P = Tryz.prog) (V : VarsOk ρ) (N : NilOk ρ) (hab : ρ.ab = mchAbs B) (S : MSigns ρ) :
    ∀ args h pc x, (pc.den ρ).asBool = true → (specObj 60 cpsX [.int .u32] byteR args h pc).get ρ = some x → CallOk ρ cx.globs cx.P 88 args h x := by
  refine specObj_ok V N (fun _ _ => rfl) ?_
  intro b cs us ss vs w hw hc hs
  obtain ⟨code, f, a1, a2, a3, _, _, c, A, cap, d1, d2, hcl, hr, hl⟩ := xcells hab hc
  obtain ⟨s1, v1, rfl, rfl, ⟨rfl, hk⟩⟩ := one_of hs
  obtain ⟨r0, r1⟩ := u32_of hk
  rw [hP]
  refine (byte1_any w b c A cap ⟨code.asStr.toArray⟩ s1.asInt r0 r1 (by rw [sz_of]; exact a3) (cell_us hw a2) (cell_us hw d2) hcl (by unfold maxLen; omega) hr).mono ?_
  rintro e w' ⟨rfl, rfl⟩
  refine ⟨Below.refl _ _, fun ct tt ι hct htt => ?_⟩
  unfold byteR
  rw [loadR_conc (ss := [s1, .int 1]) S hct (by simp [Tm.den, nthT_den, htt]) a1 d1 rfl rfl hr (.inl rfl)]
  have e1 : w32 s1.asInt = s1.asInt := by unfold w32; omega
  show _ = Ending.returned (.int .u32 (byteAt _ _ (w32 s1.asInt) + 256 * 0))
  rw [e1, Int.mul_zero, Int.add_zero]
/-! ### Stores -/
def hitT (i : Nat) (c t : Tm) : Tm := .app 711 (L3 (nthT i c) (nthT 0 t) (nthT 1 t))
def putT (j : Nat) (c t : Tm) : Tm := .app 712 (L4 (nthT j c) (nthT 0 t) (nthT 1 t) (nthT 2 t))
def mst1 : Out := ⟨fun _ _ => [(25, .bool (.bit true))], fun c _ => nthT 23 c, fun _ _ => undefS⟩
def mst2 : Out := ⟨fun _ _ => [], putT 23, fun _ _ => undefS⟩
def mstW (c t : Tm) : Tm := mkOr (nthT 25 c) (hitT 22 c t)
set_option maxRecDepth 100000 in
theorem mst1_flat : mst1.Flat := ⟨by intro c t p hp; simp [mst1] at hp; subst hp; rfl, fun _ _ => rfl⟩
set_option maxRecDepth 100000 in
theorem mst2_flat : mst2.Flat := ⟨by intro c t p hp; simp [mst2] at hp, fun _ _ => rfl⟩
set_option maxRecDepth 100000 in
theorem mstore_ok (hab : ρ.ab = mchAbs B) (S : MSigns ρ) (k : Nat) : MethOk ρ Tryz.prog 122 78 (cpsM k) [.int .u32, .size, .int .u32] 23 100 mstW mst1 mst2 := by
  intro b us vs u s F w ct tt hw hc hs hu hsc hPu hFb
  obtain ⟨code, f, a1, a2, a3, f1, f2, _, _, _, _, d1, d2, _, _⟩ := mcells hab hc
  obtain ⟨pm, bm, c, rfl, rfl, hm, rfl⟩ := mem_of hab hPu
  obtain ⟨s1, s2, s3, v1, v2, v3, hss, rfl, ⟨rfl, _⟩, ⟨rfl, hn⟩, ⟨rfl, hk3⟩⟩ := three_of hs
  obtain ⟨r0, r1⟩ := u32_of hk3
  refine (mstore_any w b pm bm c ⟨code.asStr.toArray⟩ us 78 s1.asInt s2.asInt s3.asInt f.asBool (size_of hn) r0 r1 (by rw [sz_of]; exact a3) hw a2 hu f2 hm (fun e => hFb (.inl e)) (fun e => hFb (.inr e))).mono ?_
  rintro e w' ⟨rfl, g1, g2, g3, g4, g5, g6, g7⟩
  have hd : ((mstW ct tt).den ρ).asBool = (f.asBool || inC code.asStr s1.asInt s2.asInt.toNat) := by
    unfold mstW hitT L3
    rw [mkOr_den, nthT_den, getD_of f1]
    simp only [Tm.den, S.s711, get, nthT_den, hss, Sc.asList_list, List.getD_cons_zero, List.getD_cons_succ, getD_of a1, Sc.asBool_bool]
  have ec : (⟨code.asStr.toArray⟩ : ByteArray).data.toList = code.asStr := by simp
  rw [ec] at g1 g2
  simp only [hd]
  generalize hz : (f.asBool || inC code.asStr s1.asInt s2.asInt.toNat) = z at g1 g2 ⊢
  refine ⟨fun ι => ?_, g3, g4, g5, g6, fun q hq h1 h2 => g7 q hq h1 (fun e => h2 (.inr e)), fun ι => ?_, ?_⟩
  · cases z <;> simp [mst1, mst2, undefS, SVal.conc, SVal.concL]
  · cases z
    · have e : us.set 25 (.bool false) = us := by
        obtain ⟨h1, h2⟩ := List.getElem?_eq_some_iff.1 f2
        rw [Bool.or_eq_false_iff] at hz
        rw [hz.1] at h2
        rw [← h2]; exact List.set_getElem_self h1
      rw [e] at g1
      exact g1
    · exact g1
  · rw [hab]
    refine .inr ⟨Nat.le_refl _, .inl ⟨rfl, pm, bm, _, ?_, rfl, g2, rfl⟩⟩
    cases z
    · show (putT 23 ct tt).den ρ = _
      unfold putT L4
      simp only [Tm.den, S.s712, get, nthT_den, hss, Sc.asList_list, List.getD_cons_zero, List.getD_cons_succ, getD_of hsc, scCl_cl, cond]
    · show (nthT 23 ct).den ρ = _
      rw [nthT_den, getD_of hsc]; rfl
def xstQ : Shr := ⟨fun c t => mkOr (nthT 23 c) (hitT 0 c t), fun c t => .app 711 (L3 (nthT 0 c) (nthT 0 t) (.num 1)), fun _ _ => [(23, .bool (.bit true))], fun c t => .app 715 (L5 (nthT 0 c) (nthT 22 c) (nthT 0 t) (nthT 1 t) (nthT 2 t)), putT 22⟩
set_option maxRecDepth 100000 in
theorem xstQ_flat : xstQ.Flat := by intro c t p hp; simp [xstQ] at hp; subst hp; rfl
set_option maxRecDepth 100000 in
theorem xstore_ok (hab : ρ.ab = mchAbs B) (S : MSigns ρ) : ShrOk ρ Tryz.prog 85 60 cpsX [.int .u32, .size, .int .u32] 22 2 xstQ := by
  intro b us vs u s F w ct tt hw hc hs hu hsc hPu hFb
  obtain ⟨code, f, a1, a2, a3, f1, f2, _⟩ := xcells hab hc
  obtain ⟨c, A, cap, rfl, rfl, hcl, hr, ⟨hl, hcan⟩, rfl⟩ := row_of hab (by omega) hPu
  have hcan := hcan rfl
  obtain ⟨s1, s2, s3, v1, v2, v3, hss, rfl, ⟨rfl, _⟩, ⟨rfl, hn⟩, ⟨rfl, hk3⟩⟩ := three_of hs
  obtain ⟨r0, r1⟩ := u32_of hk3
  have hfar : c ≠ [] → ∀ a, A = some a → a.block ≠ b := fun h1 a h2 e => hFb ⟨h1, a, h2, e.symm⟩
  refine (xstore_any w b c A cap ⟨code.asStr.toArray⟩ us 60 s1.asInt s2.asInt s3.asInt f.asBool (size_of hn) r0 r1 (by rw [sz_of]; exact a3) hw a2 hu f2 hcl hfar hcan hr).mono ?_
  rintro e w' ⟨rfl, A', cap', g1, g2, g3, g4, g5⟩
  have ec : (⟨code.asStr.toArray⟩ : ByteArray).data.toList = code.asStr := by simp
  rw [ec] at g1 g2 g3 g4
  have hd : ((xstQ.wy ct tt).den ρ).asBool = (f.asBool || inC code.asStr s1.asInt s2.asInt.toNat) := by
    simp only [xstQ, hitT, L3]
    rw [mkOr_den, nthT_den, getD_of f1]
    simp only [Tm.den, S.s711, get, nthT_den, hss, Sc.asList_list, List.getD_cons_zero, List.getD_cons_succ, getD_of a1, Sc.asBool_bool]
  have hd1 : ((xstQ.wy1 ct tt).den ρ).asBool = inC code.asStr s1.asInt 1 := by
    simp only [xstQ, L3, Tm.den, S.s711, get, nthT_den, hss, Sc.asList_list, List.getD_cons_zero, List.getD_cons_succ, getD_of a1, Sc.asBool_bool]
    rfl
  have hrP := inR_storeP code.asStr s2.asInt.toNat c s1.asInt s3.asInt hr
  have hcP := canon_storeP code.asStr s2.asInt.toNat c s1.asInt s3.asInt hcan
  have hrow : ∀ (k' : Nat), k' < 100 → ρ.ab.P k' (clSc (storeP code.asStr c s1.asInt s3.asInt s2.asInt.toNat)) (.slice A' (storeP code.asStr c s1.asInt s3.asInt s2.asInt.toNat).length cap') (fun q => storeP code.asStr c s1.asInt s3.asInt s2.asInt.toNat ≠ [] ∧ ∃ a, A' = some a ∧ q = a.block) w' := by
    intro k' hk'
    rw [hab]
    exact .inl ⟨hk', _, A', cap', rfl, rfl, g2, hrP, ⟨length_le hcP hrP, fun _ => hcP⟩, rfl⟩
  have hno : inC code.asStr s1.asInt 1 = false → ∀ q, (storeP code.asStr c s1.asInt s3.asInt s2.asInt.toNat ≠ [] ∧ ∃ a, A' = some a ∧ q = a.block) → w.heap.size ≤ q := by
    rintro h1 q ⟨h2, a, h3, rfl⟩
    obtain ⟨a', h4, h5⟩ := g4 h1 h2
    rw [h3] at h4
    simp only [Option.some.injEq] at h4
    subst h4
    exact h5
  refine ⟨rfl, g5.os, g5.tape, g5.output, g5.size, fun q hq h1 => g5.block q hq (fun e => h1 (by cases e; rfl)), ⟨.slice A' (storeP code.asStr c s1.asInt s3.asInt s2.asInt.toNat).length cap', rfl⟩, fun q => storeP code.asStr c s1.asInt s3.asInt s2.asInt.toNat ≠ [] ∧ ∃ a, A' = some a ∧ q = a.block, fun hw1 => ?_, fun hw0 => ?_⟩
  rotate_right
  · rw [hd] at hw0
    rw [hw0] at g1
    rw [Bool.or_eq_false_iff] at hw0
    have e23 : us.set 23 (.bool false) = us := by
      obtain ⟨h1, h2⟩ := List.getElem?_eq_some_iff.1 f2
      rw [hw0.1] at h2
      rw [← h2]; exact List.set_getElem_self h1
    rw [e23] at g1
    have h1n : inC code.asStr s1.asInt 1 = false := by
      have := hw0.2
      rcases hn with h | h | h <;> rw [h] at this <;> simp only [show Int.toNat 1 = 1 from rfl, show Int.toNat 2 = 2 from rfl, show Int.toNat 4 = 4 from rfl, inC, Bool.or_eq_false_iff] at this ⊢ <;> exact ⟨this.1, trivial⟩
    refine ⟨g1, hno h1n, ?_⟩
    have e2 : (xstQ.d2 ct tt).den ρ = clSc (storeP code.asStr c s1.asInt s3.asInt s2.asInt.toNat) := by
      rw [storeP_free _ _ _ _ _ hw0.2]
      show (putT 22 ct tt).den ρ = _
      unfold putT L4
      simp only [Tm.den, S.s712, get, nthT_den, hss, Sc.asList_list, List.getD_cons_zero, List.getD_cons_succ, getD_of hsc, scCl_cl]
    rw [e2]
    exact hrow 2 (by omega)
  · rw [hd] at hw1
    rw [hw1] at g1
    have e2 : (xstQ.d1 ct tt).den ρ = clSc (storeP code.asStr c s1.asInt s3.asInt s2.asInt.toNat) := by
      simp only [xstQ, L5, Tm.den, S.s715, get, nthT_den, hss, Sc.asList_list, List.getD_cons_zero, List.getD_cons_succ, getD_of hsc, getD_of a1, scCl_cl]
    refine ⟨fun ι => g1, by rw [e2]; exact hrow 2 (by omega), fun h1 => ?_, fun h1 => hno (by rw [← hd1]; exact h1)⟩
    rw [hd1] at h1
    obtain ⟨rfl, rfl⟩ := g3 h1
    have es : storeP code.asStr c s1.asInt s3.asInt s2.asInt.toNat = c := by
      have : ∃ m, s2.asInt.toNat = m + 1 := ⟨s2.asInt.toNat - 1, by rcases hn with h | h | h <;> omega⟩
      obtain ⟨m, hm⟩ := this
      rw [hm, storeP, if_pos]
      simpa [inC] using h1
    rw [es] at g1 ⊢
    refine ⟨rfl, fun ι => ?_⟩
    have e22 : (us.set 23 (.bool true)).set 22 (.slice A' c.length cap') = us.set 23 (.bool true) := by
      have : (us.set 23 (.bool true))[22]? = some (.slice A' c.length cap') := by rw [List.getElem?_set_ne (by decide)]; exact hu
      obtain ⟨h1, h2⟩ := List.getElem?_eq_some_iff.1 this
      rw [← h2]; exact List.set_getElem_self h1
    rw [e22] at g1
    exact g1
end
end Go.Proofs.YthbdmlcbdibiiaaGreatDoor
/-
  DERIVED: THE SHELF's CONTRACTS AT THIS DUMP, IN PLAIN WORDS (tools/lay-plain.mjs out of 'TryzSortSrc.lean', which tools/lay-shelf.mjs wrote): THE SAME DECLARATIONS UNDER THE SAME NAMES: 'import', 'namespace', 'open', 'def', 'theorem' AND NOTHING ELSE: no command of the shelf's: FOR A HAND-IN. Each laying: the table of numbers ('.._ren') and one theorem, a field a fact of the dump's own or the kernel's comparison; each contract: ONE APPLICATION.
-/
namespace Go.Proofs
open Go.Shelf
def Tryz.sortL_ren : Go.Shelf.Ren := ⟨fun | 6 => 78 | 15 => 127 | 14 => 126 | 28 => 161 | 29 => 162 | 20 => 153 | 21 => 154 | 22 => 155 | 23 => 156 | 24 => 157 | 25 => 158 | 26 => 159 | 27 => 160 | 46 => 196 | 47 => 197 | 48 => 198 | 49 => 199 | 50 => 200 | 57 => 212 | n => n, fun | 22 => 28 | 24 => 71 | 25 => 111 | 3 => 3 | 39 => 50 | 0 => 0 | 53 => 24 | 55 => 91 | 4 => 4 | 46 => 162 | 45 => 161 | 50 => 87 | 5 => 5 | 9 => 9 | 66 => 172 | 70 => 176 | 76 => 186 | 77 => 141 | n => n, fun | n => n⟩
theorem Tryz.sortL : Go.Proofs.SlLaysF0.n6 Tryz.prog Tryz.sortL_ren := {
  mixed := by kernel_rfl
  f6 := ⟨Tryz.f78.name, by decide, Tryz.func78.trans (congrArg some (by kernel_rfl))⟩
  f14 := ⟨Tryz.f126.name, by decide, Tryz.func126.trans (congrArg some (by kernel_rfl))⟩
  f15 := Tryz.func127.trans (congrArg some (by kernel_rfl))
  f20 := ⟨Tryz.f153.name, by decide, Tryz.func153.trans (congrArg some (by kernel_rfl))⟩
  f21 := ⟨Tryz.f154.name, by decide, Tryz.func154.trans (congrArg some (by kernel_rfl))⟩
  f22 := ⟨Tryz.f155.name, by decide, Tryz.func155.trans (congrArg some (by kernel_rfl))⟩
  f23 := ⟨Tryz.f156.name, by decide, Tryz.func156.trans (congrArg some (by kernel_rfl))⟩
  f24 := ⟨Tryz.f157.name, by decide, Tryz.func157.trans (congrArg some (by kernel_rfl))⟩
  f25 := ⟨Tryz.f158.name, by decide, Tryz.func158.trans (congrArg some (by kernel_rfl))⟩
  f26 := ⟨Tryz.f159.name, by decide, Tryz.func159.trans (congrArg some (by kernel_rfl))⟩
  f27 := ⟨Tryz.f160.name, by decide, Tryz.func160.trans (congrArg some (by kernel_rfl))⟩
  f28 := Tryz.func161.trans (congrArg some (by kernel_rfl))
  f29 := Tryz.func162.trans (congrArg some (by kernel_rfl))
  f46 := ⟨Tryz.f196.name, by decide, Tryz.func196.trans (congrArg some (by kernel_rfl))⟩
  f47 := Tryz.func197.trans (congrArg some (by kernel_rfl))
  f48 := Tryz.func198.trans (congrArg some (by kernel_rfl))
  f49 := ⟨Tryz.f199.name, by decide, Tryz.func199.trans (congrArg some (by kernel_rfl))⟩
  f50 := ⟨Tryz.f200.name, by decide, Tryz.func200.trans (congrArg some (by kernel_rfl))⟩
  f57 := ⟨Tryz.f212.name, by decide, Tryz.func212.trans (congrArg some (by kernel_rfl))⟩
  t0 := Tryz.underlying0
  a0 := Tryz.isAgg0
  z0 := Tryz.sizeOf0
  v0 := Tryz.zeroValue0
  t3 := Tryz.underlying3
  a3 := Tryz.isAgg3
  z3 := Tryz.sizeOf3
  v3 := Tryz.zeroValue3
  t4 := Tryz.underlying4
  a4 := Tryz.isAgg4
  z4 := Tryz.sizeOf4
  v4 := Tryz.zeroValue4
  t5 := Tryz.underlying5
  a5 := Tryz.isAgg5
  z5 := Tryz.sizeOf5
  v5 := Tryz.zeroValue5
  t9 := Tryz.underlying9
  a9 := Tryz.isAgg9
  z9 := Tryz.sizeOf9
  v9 := Tryz.zeroValue9
  t22 := Tryz.underlying28
  a22 := Tryz.isAgg28
  z22 := Tryz.sizeOf28
  v22 := Tryz.zeroValue28
  t25 := Tryz.underlying111
  a25 := Tryz.isAgg111
  z25 := Tryz.sizeOf111
  v25 := Tryz.zeroValue111
  t39 := Tryz.underlying50
  a39 := Tryz.isAgg50
  z39 := Tryz.sizeOf50
  v39 := Tryz.zeroValue50
  t45 := Tryz.underlying161
  a45 := Tryz.isAgg161
  z45 := Tryz.sizeOf161
  v45 := Tryz.zeroValue161
  t46 := Tryz.underlying162
  a46 := Tryz.isAgg162
  z46 := Tryz.sizeOf162
  v46 := Tryz.zeroValue162
  t50 := Tryz.underlying87
  a50 := Tryz.isAgg87
  z50 := Tryz.sizeOf87
  v50 := Tryz.zeroValue87
  t53 := Tryz.underlying24
  a53 := Tryz.isAgg24
  z53 := Tryz.sizeOf24
  v53 := Tryz.zeroValue24
  t55 := Tryz.underlying91
  a55 := Tryz.isAgg91
  z55 := Tryz.sizeOf91
  v55 := Tryz.zeroValue91
  t66 := Tryz.underlying172
  a66 := Tryz.isAgg172
  z66 := Tryz.sizeOf172
  v66 := Tryz.zeroValue172
  t70 := Tryz.underlying176
  a70 := Tryz.isAgg176
  z70 := Tryz.sizeOf176
  v70 := Tryz.zeroValue176
  t76 := Tryz.underlying186
  a76 := Tryz.isAgg186
  z76 := Tryz.sizeOf186
  v76 := Tryz.zeroValue186
  t77 := Tryz.underlying141
  a77 := Tryz.isAgg141
  z77 := Tryz.sizeOf141
  v77 := Tryz.zeroValue141 }
end Go.Proofs
/- Memory's 'Cells': all bytes, by rising addresses. -/
namespace Go.Proofs.YthbdmlcbdibiiaaGreatDoor
open Go.RowKit Go.Mem Go.Maps Go.Sort Go.Shelf
structure Coll (c : Cells) (left : Lit → Bool) (l : Cells) : Prop where
  mem : ∀ p ∈ l, p ∈ c ∧ left (kl p.1) = false
  nd : (l.map Prod.fst).Nodup
  all : ∀ p ∈ c, left (kl p.1) = false → p ∈ l
set_option maxRecDepth 100000 in
theorem Coll.start {D : DataW Unit} {c : Cells} (h : MapIs D c) : Coll c (Maps.has D) [] where
  mem p hp := by cases hp
  nd := by simp
  all p hp hl := by
    have hr := h.inr p hp
    rw [h.has_ p.1 hr.1 hr.2.1] at hl
    have hz := h.canon.nz p hp
    rw [getL_ne h.canon hp] at hl
    simp at hl
    exact absurd hl hz
set_option maxRecDepth 100000 in
theorem Coll.step {D : DataW Unit} {c l : Cells} {left : Lit → Bool} (h : MapIs D c) (hc : Coll c left l) {x y v : Int} {k : Lit} {ps : List MemPlace} {e : DataW Unit} (hk : keyOf Tryz.prog 109 (pv x y) = some k) (hl : left k = true)
    (hv : elemR (.int .u8 v) = some (e, ps)) (hat : ∀ zd, D.atKey k zd = e) :
    ∃ a, 0 ≤ a ∧ a < 4294967296 ∧ x = a / 4 ∧ y = a % 4 ∧ 0 ≤ v ∧ v < 256 ∧ Coll c (fun z => left z && !z.sameKey k) (l ++ [(a, v)]) := by
  obtain ⟨a, a0, a1, rfl⟩ := h.keys k (has_true_of_atKey hat)
  have e1 := placeLaw.inj hk (keyOf_at a0 a1)
  simp [pv, av] at e1
  obtain ⟨q, hq, he, hw⟩ := plainElem_int_inv Tryz.underlying5 hv
  injection hq with _ hq
  subst hq
  simp only [Prod.mk.injEq] at he
  have ev := (hat (.lit (.int .u8 0))).symm.trans (h.val a a0 a1)
  rw [he.1] at ev
  injection ev with ev
  injection ev with _ ev
  have hne : getL c a ≠ 0 := by
    have := h.has_ a a0 a1
    rw [has_true_of_atKey hat] at this
    simpa using this.symm
  have hm : (a, v) ∈ c := by rw [ev]; exact getL_mem hne
  have hr := h.inr _ hm
  refine ⟨a, a0, a1, e1.1, e1.2, hr.2.2.1, hr.2.2.2, ⟨?_, ?_, ?_⟩⟩
  · intro p hp
    rcases List.mem_append.1 hp with hp | hp
    · exact ⟨(hc.mem p hp).1, by simp [(hc.mem p hp).2]⟩
    · simp at hp
      subst hp
      exact ⟨hm, by simp [WideAt.sameKey_self (kl_key a0 a1)]⟩
  · rw [List.map_append, List.nodup_append]
    refine ⟨hc.nd, by simp, ?_⟩
    intro u hu w hw2 huw
    simp at hw2
    subst hw2
    subst huw
    obtain ⟨p, hp, rfl⟩ := List.mem_map.1 hu
    rw [(hc.mem p hp).2] at hl
    cases hl
  · intro p hp hlp
    cases hlk : left (kl p.1) with
    | false => exact List.mem_append_left _ (hc.all p hp hlk)
    | true =>
      simp only [hlk, Bool.true_and, Bool.not_eq_false'] at hlp
      have hrp := h.inr p hp
      have e2 : p.1 = a := kl_inj hrp.1 hrp.2.1 a0 a1 (WideAt.sameKey_eq hlp)
      have e3 : p = (a, v) := by
        have := getL_ne h.canon hp
        rw [e2, ← ev] at this
        rw [← e2, this]
      rw [e3]
      simp
set_option maxRecDepth 100000 in
theorem Coll.finish {c l : Cells} {left : Lit → Bool} (hn : Canon c) (hc : Coll c left l) (hl : ∀ k, left k = false) : l.Perm c := by
  have h1 : l.Nodup := by
    have := hc.nd
    rw [List.nodup_iff_pairwise_ne] at *
    rw [List.pairwise_map] at this
    exact this.imp (fun h e => h (by rw [e]))
  have h2 : c.Nodup := by
    rw [List.nodup_iff_pairwise_ne]
    exact hn.up.imp (fun h e => by rw [e] at h; omega)
  rw [List.perm_ext_iff_of_nodup h1 h2]
  intro p
  exact ⟨fun hp => (hc.mem p hp).1, fun hp => hc.all p hp (hl _)⟩
def encP (x : Int × Int) : List Value := [.int .u32 x.1, .int .u8 x.2]
def cmpF (x y : Int × Int) : Int := if x.1 < y.1 then -1 else 1
set_option maxRecDepth 100000 in
theorem ltP (x y : Int × Int) : ltOf cmpF x y = decide (x.1 < y.1) := by
  unfold ltOf cmpF
  by_cases h1 : x.1 < y.1 <;> simp [h1]
set_option maxRecDepth 100000 in
theorem swoP : SWO (ltOf cmpF) where
  irrefl x := by rw [ltP]; simp
  trans x y z h1 h2 := by rw [ltP] at *; simp at *; omega
  ntrans x y z h1 h2 := by rw [ltP] at *; simp at *; omega
set_option maxRecDepth 100000 in
set_option maxHeartbeats 1000000 in
theorem cmp_any (x y : Int × Int) (W : World) : Calls Tryz.prog 79 #[.agg #[.int .u32 x.1, .int .u8 x.2], .agg #[.int .u32 y.1, .int .u8 y.2]] W fun e w' => e = .returned (.int .i64 (cmpF x y)) ∧ ∃ q os', w' = grow (W.drewN q) os' := by
  unfold cmpF
  by_cases h : x.1 < y.1
  · rw [if_pos h]
    go_enter Tryz.func79, Tryz.ntmps79
    go_wp2
    go_ret
    exact ⟨rfl, 0, _, by rw [alloc_eq_grow, alloc_eq_grow, grow_grow]; rfl⟩
  · rw [if_neg h]
    go_enter Tryz.func79, Tryz.ntmps79
    go_wp2
    go_ret
    exact ⟨rfl, 0, _, by rw [alloc_eq_grow, alloc_eq_grow, grow_grow]; rfl⟩
set_option maxRecDepth 100000 in
theorem holdsP {w : World} {base g cap : Nat} {c : Cells} {e : TypeId} (h : w.ownsRow base e 2 (.slice (some ⟨g, 0, none⟩) c.length cap) c.length (encC c)) : HoldsK encP 2 w g 0 c.toArray := by
  intro j hj
  have hj2 : j < c.length * 2 := by simpa using hj
  have hi : j / 2 < c.length := by omega
  rw [get_flatK _ _ _ _ (by simpa using hj2)]
  refine ⟨?_, ?_⟩
  · have hat := encC_at c (j / 2) _ (List.getElem?_eq_getElem hi)
    rw [Nat.zero_add, h.cellAt j hj2]
    have hx : (c.toArray)[j / 2]! = c[j / 2] := by simp [hi]
    rw [hx]
    rcases Nat.mod_two_eq_zero_or_one j with hm | hm
    · have : j = j / 2 * 2 := by omega
      rw [hm]
      conv => lhs; rw [this]
      exact hat.1
    · have : j = j / 2 * 2 + 1 := by omega
      rw [hm]
      conv => lhs; rw [this]
      exact hat.2
  · rw [Nat.zero_add]
    exact h.frozenAt j
set_option maxRecDepth 100000 in
theorem below_sorted {B : Nat} (w : World) (g n : Nat) (d : Array (Int × Int)) (os : Array Obj) (hB : B ≤ g) (hs : B ≤ w.heap.size) : Below B w (sortWorldK encP 2 w g 0 n d os) := by
  refine ⟨rfl, rfl, rfl, size_sortWorldK_c _ _ _ _ _ _ _ _, fun k hk => ?_⟩
  show (w.heap.modify g _ ++ os)[k]? = w.heap[k]?
  rw [Array.getElem?_append_left (by simp; omega), Array.getElem?_modify, if_neg (by omega)]
set_option maxRecDepth 100000 in
theorem eq_of_sorted {c : Cells} (hn : Canon c) {d d' : Array (Int × Int)} (hp : d.toList.Perm c) (h1 : PermIn 0 d.size d d') (h2 : SortedIn (ltOf cmpF) 0 d.size d') : d'.toList = c := by
  have hsz := h1.1
  have e1 : (d'.extract 0 d.size).toList = d'.toList := by simp [← hsz]
  have e2 : (d.extract 0 d.size).toList = d.toList := by simp
  have hp' : d'.toList.Perm c := by
    have := h1.2.2
    rw [e1, e2] at this
    exact this.trans hp
  have hnd : d'.toList.Nodup := hp'.nodup_iff.2 (by
    rw [List.nodup_iff_pairwise_ne]
    exact hn.up.imp (fun h e => by rw [e] at h; omega))
  have inj : ∀ p ∈ c, ∀ q ∈ c, p.1 = q.1 → p = q := by
    intro p hp q hq e
    have k1 := getL_ne hn hp
    have k2 := getL_ne hn hq
    rw [e, k2] at k1
    exact Prod.ext e k1.symm
  refine canon_ext ⟨?_, fun p hp => hn.nz p (hp'.mem_iff.1 hp)⟩ hn (fun p => hp'.mem_iff)
  rw [List.pairwise_iff_getElem]
  intro i j hi hj hij
  have hi' : i < d'.size := by simpa using hi
  have hj' : j < d'.size := by simpa using hj
  have := h2 i j (Nat.zero_le _) hij (by omega)
  rw [ltP, getElem!_pos d' i hi', getElem!_pos d' j hj'] at this
  simp at this
  have hne : d'[i].1 ≠ d'[j].1 := by
    intro e
    have m1 : d'[i] ∈ c := hp'.mem_iff.1 (by simp)
    have m2 : d'[j] ∈ c := hp'.mem_iff.1 (by simp)
    have e3 := inj _ m1 _ m2 e
    have := (List.nodup_iff_pairwise_ne.1 hnd)
    rw [List.pairwise_iff_getElem] at this
    exact this i j hi hj hij (by simpa using e3)
  simp only [Array.getElem_toList]
  omega
set_option maxRecDepth 100000 in
theorem or_place (a : Int) (h0 : 0 ≤ a) (h1 : a < 4294967296) : bits .or .u32 (a / 4 * 4 % 4294967296) (a % 4) = a := by
  have e : a / 4 * 4 % 4294967296 = a / 4 * 4 := by omega
  rw [e, u32_or _ _ (by omega) (by omega) (by omega) (by omega)]
  obtain ⟨n, rfl⟩ := Int.eq_ofNat_of_zero_le h0
  have e1 : ((n : Int) / 4 * 4).toNat = 2 ^ 2 * (n / 4) := by omega
  have e2 : ((n : Int) % 4).toNat = n % 4 := by omega
  rw [e1, e2, ← Nat.two_pow_add_eq_or_of_lt (by omega : n % 4 < 2 ^ 2)]
  omega
set_option maxRecDepth 100000 in
set_option maxHeartbeats 2000000 in
theorem sort_any (w : World) (base : Nat) (v : Value) (c l : Cells) (hn : Canon c) (hp : l.Perm c) (hown : w.ownsRow base 71 2 v l.length (encC l)) (hb : base ≤ w.heap.size) (hl : l.length ≤ 4294967296) :
    Calls Tryz.prog 78 #[v, .func (.func 79) #[] #[]] w fun e w' => e = .returned (.tuple #[]) ∧ (∃ A cap, v = .slice A c.length cap ∧ ClAt w' w'.heap.size A c) ∧ Below base w w' := by
  have hlen := hp.length_eq
  rcases hown.2 with ⟨hv, h0⟩ | ⟨g, cap, cur, rfl, hg, hh, _⟩
  · subst hv
    have hc0 : c = [] := List.eq_nil_of_length_eq_zero (by omega)
    subst hc0
    refine (AnyF.slices_SortFunc_none (P := Tryz.prog) (ρ := Tryz.sortL_ren) { Tryz.sortL with } none 0 (.func (.func 79) #[] #[]) w).mono ?_
    rintro e w' ⟨rfl, rfl⟩
    exact ⟨rfl, ⟨none, 0, rfl, ClAt.nil _ _ _⟩, Below.refl _ _⟩
  · have hgl : g < w.heap.size := (Array.getElem?_eq_some_iff.1 hh).1
    have hH := holdsP hown
    have eg : ∀ args w, (callFunc 79 args).run Tryz.prog w = .ok (.enter 79 args) w := enters_of Tryz.func79 (by kernel_rfl) rfl
    have hcon := AnyQ.slices_SortFunc Tryz.sortL 2 Tryz.isAgg71 Tryz.sizeOf71 encP (fun _ => rfl) (fun x v hv => by simp [encP] at hv; rcases hv with rfl | rfl <;> rfl) cmpF swoP 79 #[] g 0 cap l.toArray w eg (fun _ _ _ _ x y => cmp_any x y _) hH hgl (by simp; omega)
    have e1 : l.toArray.size = l.length := by simp
    rw [e1] at hcon
    refine hcon.mono ?_
    rintro e w' ⟨rfl, d', n, os, h1, h2, rfl⟩
    have hd := eq_of_sorted hn (d := l.toArray) (by simpa using hp) (by rw [e1]; exact h1) (by rw [e1]; exact h2)
    have hs : d'.size = l.toArray.size := h1.1
    have hK := holdsK_sortWorldK_c encP 2 w g 0 l.toArray d' n os hH hgl hs
    refine ⟨rfl, ⟨some ⟨g, 0, none⟩, cap, by rw [hlen], ?_⟩, below_sorted w g n d' os hg hb⟩
    intro _
    refine ⟨g, 0, rfl, Nat.lt_of_lt_of_le hgl (size_sortWorldK_c _ _ _ _ _ _ _ _), fun i p hip => ?_⟩
    rw [← hd] at hip
    have hi : i < d'.size := by
      have := (List.getElem?_eq_some_iff.1 hip).1
      simpa using this
    have hx : d'[i]! = p := by
      rw [getElem!_pos d' i hi]
      have := (List.getElem?_eq_some_iff.1 hip).2
      simpa using this
    have k1 := (hK.cell hi (c := 0) (by omega)).1
    have k2 := (hK.cell hi (c := 1) (by omega)).1
    rw [hx] at k1 k2
    exact ⟨k1, k2⟩
set_option maxRecDepth 100000 in
theorem ranges_below {P : Program} {k : TypeId} {R : Value → Option (DataW Unit × List MemPlace)} {w w' : World} {b r n : Nat} {D : DataW Unit} {left : Lit → Bool} {cnt B : Nat} (h : w.ranges P k R b r n D left cnt) (hb : RowKit.Below B w w') (h1 : b < B) (h2 : r < B) : w'.ranges P k R b r n D left cnt := by
  obtain ⟨es, clock, since, seen, c0, e1, e2, e3, e4, e5, e6⟩ := h
  exact ⟨es, clock, since, seen, c0, (hb.block b h1).trans e1, e2, e3, e4, (hb.block r h2).trans e5, e6⟩
set_option maxRecDepth 100000 in
set_option maxHeartbeats 4000000 in
theorem cells_new (w : World) (b bm : Nat) (c : Cells) (hm : MemAt w b bm c) :
    Calls Tryz.prog 42 #[.pointer (some ⟨b, 0, none⟩)] w fun e w' => ∃ A' cap', e = .returned (.slice A' c.length cap') ∧ ClAt w' w'.heap.size A' c ∧ (c ≠ [] → ∃ a, A' = some a ∧ w.heap.size ≤ a.block) ∧ Below w.heap.size w w' := by
  have hlt := hm.lt
  have hle := length_le hm.is.1 hm.is.2
  have hn := hm.is.1
  obtain ⟨hc, D, ho, hd⟩ := hm
  have hsz := hd.size_
  go_enter Tryz.func42, Tryz.ntmps42
  go_wp2_with (at_range; refine wpList_range_own _ rfl _ 99 rfl 109 5 placeLaw Tryz.underlying99 elemR bm c.length D rfl ho ?_; intro w0 hrg0 hg0 hs0)
  go_frame
  go_loopw [3] (fun v wr => ∃ (left : Lit → Bool) (cnt : Nat) (l : Cells), wr.ranges Tryz.prog 109 elemR bm w.heap.size c.length D left cnt ∧ wr.ownsRow (w.heap.size + 1) 71 2 v l.length (encC l) ∧ Coll c left l ∧ l.length + cnt ≤ c.length ∧ Below w.heap.size w wr ∧ w.heap.size + 1 ≤ wr.heap.size) (fun _ wr => wr.rangeLeft bm w.heap.size)
  case atStart => exact ⟨_, _, [], hrg0, World.ownsRow_nil _ _ _ _, Coll.start hd, by simp [hsz], (Below.refl _ _).grown hg0 (Nat.le_refl _) (fun j hj => by cases hj), by omega⟩
  case round =>
    obtain ⟨left, cnt, l, hrg, hown, hco, hln, hbr, hws⟩ := hrel
    go_wp2_with (first
      | (at_next; refine wpList_next_ranges _ rfl _ rfl 109 placeLaw elemR (fun p : Int × Int => pv p.1 p.2) (Value.int .u8) (fun key kl hk => place_inv hk) (fun v y hv => by obtain ⟨q, rfl, _⟩ := plainElem_int_inv Tryz.underlying5 hv; exact ⟨q, rfl⟩) bm w.heap.size c.length _ _ _ rfl hrg ?_ ?_)
      | go_in)
    · intro _ hl0
      have hperm := hco.finish hn hl0
      have hs := sort_any wr (w.heap.size + 1) u3 c l hn hperm hown hws (by omega)
      go_wp2_with (go_at_call 78; refine hs.mono ?_; rintro e w' ⟨rfl, hA, hb2⟩)
      obtain ⟨A, cap, rfl, hA⟩ := hA
      have hnew : c ≠ [] → ∃ a, A = some a ∧ w.heap.size ≤ a.block := by
        intro hc0
        rcases hown.2 with ⟨_, h0⟩ | ⟨g, cap', cur, hv, hg, _⟩
        · exact absurd (List.eq_nil_of_length_eq_zero (by rw [← hperm.length_eq]; exact h0)) hc0
        · injection hv with hA2
          exact ⟨_, hA2, by show w.heap.size ≤ g; omega⟩
      go_ret
      exact ⟨A, cap, rfl, hA, hnew, hbr.trans (hb2.mono (by omega))⟩
    · intro x y v k yd yp w2 cnt2 hkey hlk hv hat hrg2 hlt2 hg2 hs2 hen
      obtain ⟨a, a0, a1, hx, hy, v0, v1, hco2⟩ := hco.step hd hkey hlk hv hat
      have hor := or_place a a0 a1
      rw [← hx, ← hy] at hor
      have hown2 := hown.kept hg2 (Or.inr (fun e => by have := (hown.lt _ e).1; omega))
      have hw2 : w.heap.size + 1 ≤ w2.heap.size := by omega
      clear hs2 hx hy hat hv hkey hlk
      simp only [pv] at hen
      go_wp2_with (at_builtin; refine app_cell (w2.alloc _) rfl _ _ rfl (w.heap.size + 1) (by simp; omega) l a v (by omega) _ rfl ?_ _ rfl (by simp) ?_; exact hown2.alloc _; intro v3 w3 hown3 hb3)
      have hrg3 := ranges_below (hrg2.alloc (.cells #[.int .u32 x, .int .u32 y] 109)) hb3 (by omega) (Nat.lt_succ_self _)
      go_roundw
      case rel => exact ⟨_, cnt2, l ++ [(a, v)], hrg3, hown3, hco2, by simp; omega, ((hbr.grown hg2 (by omega) (fun j hj => by cases hj; exact Nat.le_refl _)).alloc (by omega) _).trans (hb3.mono (by omega)), Nat.le_trans (by simp; omega) hb3.size⟩
      case measure => rw [hrg3.left_eq, hrg.left_eq]; exact hlt2
end Go.Proofs.YthbdmlcbdibiiaaGreatDoor
/- For the seat: the executor over its program, and the package's variable that is laid. -/
namespace Go.Proofs.YthbdmlcbdibiiaaGreatDoor
open Go.Sx Go.ChangeShapes Go.WideShapes Go.RowKit Go.Joins Go.Deep
def kindsS : SVal := .ofList [.int .i64 (.num 0), .bool (.bit false), .int .i64 (.num 8), .bool (.bit true), .int .i64 (.num 11), .bool (.bit true), .int .i64 (.num 20), .bool (.bit true), .int .i64 (.num 24), .bool (.bit true), .int .i64 (.num 6), .bool (.bit false)]
noncomputable def cx : Cx := { P := Tryz.prog, okT := [23], globs := [(0, kindsS)] }
set_option maxRecDepth 100000 in
theorem cxok : cx.Ok := by
  refine ⟨?_, names_of (by kernel_rfl), by kernel_rfl⟩
  intro t ht
  simp only [cx, List.mem_cons, List.not_mem_nil, or_false] at ht
  subst ht
  exact ⟨by kernel_rfl, by kernel_rfl⟩
set_option maxRecDepth 100000 in
theorem globsC : Globs.Closed cx.globs := by
  intro g cs hg ρ ρ' ι
  simp only [cx, List.mem_cons, List.not_mem_nil, or_false, Prod.mk.injEq] at hg
  obtain ⟨rfl, rfl⟩ := hg
  rfl
def cells12 : Array Value := #[.int .i64 0, .bool false, .int .i64 8, .bool true, .int .i64 11, .bool true, .int .i64 20, .bool true, .int .i64 24, .bool true, .int .i64 6, .bool false]
def Laid (w : World) : Prop := ∃ t fz, w.heap[0]? = some (.cells cells12 t fz)
set_option maxRecDepth 100000 in
theorem start (ρ : Env) {w : World} (h : Laid w) (hB : ∀ q, ρ.ab.B q → ownK w q := by exact fun _ h => False.elim h) : HR ρ cx.globs (ownK w) w ι0 [] w := by
  obtain ⟨t, fz, hw⟩ := h
  refine ⟨rfl, rfl, rfl, Nat.le_refl _, fun _ _ => rfl, fun _ h => h, hB, ?_, ?_, ?_⟩
  · intro n b hb; simp at hb
  · intro n m b c hb; simp at hb
  · intro g cs hg
    simp only [cx, List.mem_cons, List.not_mem_nil, or_false, Prod.mk.injEq] at hg
    obtain ⟨rfl, rfl⟩ := hg
    exact ⟨(Array.getElem?_eq_some_iff.1 hw).1, rfl, cells12, t, fz, hw, rfl⟩
set_option maxRecDepth 100000 in
theorem own : ownKnob Tryz.prog.godebug = none := by kernel_rfl
set_option maxRecDepth 100000 in
theorem kindsG : Tryz.prog.globalNamed "cartouche/offs.kinds" = some 0 := by kernel_rfl
set_option maxRecDepth 100000 in
theorem kindsT : (Tryz.prog.globals[0]?).map (·.type) = some 191 := by kernel_rfl
set_option maxRecDepth 100000 in
theorem cellsOf126 : Tryz.prog.cellsOf 191 = 12 := by kernel_rfl
set_option maxRecDepth 100000 in
theorem cellsOf125 : Tryz.prog.cellsOf 190 = 2 := by kernel_rfl
set_option maxRecDepth 100000 in
theorem under126 : Tryz.prog.underlying 191 = some (.array 6 190) := by kernel_rfl
set_option maxRecDepth 100000 in
theorem kind_of_trod {H : Type} {enc : TypeId × Value → H} {w : World} {base : Nat} {sp : Nat → Bool} {held : Bool} {fuel : Nat} {a b : Value} {y : DataW H × List MemPlace}
    (h : DataW.trod enc Tryz.prog w base sp held fuel 190 [a, b] = some y) : ∃ n s, a = .int .i64 n ∧ b = .bool s ∧ y.1 = .agg [.lit (.int .i64 n), .lit (.bool s)] := by
  obtain ⟨fs, hs, hsz, hone, hk⟩ : ∃ fs : Array Field, Tryz.prog.underlying 190 = some (.struct fs) ∧ fs.size = 2 ∧ oneCellFields Tryz.prog fs = true ∧ flatKinds Tryz.prog fs.toList = some [some .i64, none] :=
    ⟨_, Tryz.underlying190, rfl, by kernel_rfl, by kernel_rfl⟩
  obtain ⟨xs, n, rfl, hx, _, hl, hf⟩ := DataW.trod_struct hs h
  obtain ⟨_, hk2⟩ := flatKinds_at hk
  rw [hsz] at hl
  have e0 : fs[0]? = some (fs[0]'(by omega)) := Array.getElem?_eq_getElem (by omega)
  have e1 : fs[1]? = some (fs[1]'(by omega)) := Array.getElem?_eq_getElem (by omega)
  obtain ⟨x0, x1, rfl⟩ : ∃ x0 x1, xs = [x0, x1] := by
    match xs, hl with
    | [x0, x1], _ => exact ⟨x0, x1, rfl⟩
  have g0 := hf 0 _ e0
  have g1 := hf 1 _ e1
  obtain ⟨o0, c0⟩ := hone_of hone 0 _ e0
  obtain ⟨o1, c1⟩ := hone_of hone 1 _ e1
  rw [o0, c0] at g0
  rw [o1, c1] at g1
  have g0' : DataW.trod enc Tryz.prog w base sp held n _ [a] = some x0 := g0
  have g1' : DataW.trod enc Tryz.prog w base sp held n _ [b] = some x1 := g1
  rcases hk2 0 _ (by rw [Array.getElem?_toList]; exact e0) with ⟨k, u1, u2⟩ | ⟨u1, _⟩
  · rcases hk2 1 _ (by rw [Array.getElem?_toList]; exact e1) with ⟨k', v1, _⟩ | ⟨v1, v2⟩
    · simp at v1
    · simp at u1
      subst u1
      obtain ⟨n', r1, r2, _⟩ := DataW.trod_int u2 g0'
      obtain ⟨s, r3, r4⟩ := DataW.trod_bool v2 g1'
      simp only [List.cons.injEq, and_true] at r1 r3
      refine ⟨n', s, r1, r3, ?_⟩
      rw [hx, r2, r4]; rfl
  · simp at u1
set_option maxRecDepth 100000 in
theorem cells_of_laid {W : World} (h : laidMet Tryz.prog [("cartouche/offs.kinds", Rows.laid_cartouche_offs_kinds)] W) : W.var? Tryz.prog "cartouche/offs.kinds" = some cells12 := by
  obtain ⟨ps, ⟨g, t, cs, fuel, p, q, hg, ht, hvar, hd, _, _⟩, _⟩ := h
  obtain rfl := Option.some.inj (kindsG.symm.trans hg)
  obtain rfl := Option.some.inj (kindsT.symm.trans ht)
  rw [hvar]
  congr 1
  obtain ⟨l⟩ := cs
  cases fuel with
  | zero => simp [DataW.trod] at hd
  | succ fuel =>
    simp only [DataW.trod, under126, cellsOf126, cellsOf125] at hd
    split at hd
    · rename_i hl
      obtain ⟨c0, c1, c2, c3, c4, c5, c6, c7, c8, c9, c10, c11, rfl⟩ : ∃ c0 c1 c2 c3 c4 c5 c6 c7 c8 c9 c10 c11, l = [c0, c1, c2, c3, c4, c5, c6, c7, c8, c9, c10, c11] := by
        match l, hl with
        | [c0, c1, c2, c3, c4, c5, c6, c7, c8, c9, c10, c11], _ => exact ⟨c0, c1, c2, c3, c4, c5, c6, c7, c8, c9, c10, c11, rfl⟩
      have e : List.range 6 = [0, 1, 2, 3, 4, 5] := rfl
      rw [e] at hd
      simp only [Option.map_eq_some_iff, List.mapM_cons, List.mapM_nil, Option.bind_eq_bind, Option.bind_eq_some_iff, Option.pure_def, Option.some.injEq] at hd
      obtain ⟨xs, ⟨y0, h0, _, ⟨y1, h1, _, ⟨y2, h2, _, ⟨y3, h3, _, ⟨y4, h4, _, ⟨y5, h5, _, rfl, rfl⟩, rfl⟩, rfl⟩, rfl⟩, rfl⟩, rfl⟩, hx⟩ := hd
      obtain ⟨n0, s0, rfl, rfl, k0⟩ := kind_of_trod h0
      obtain ⟨n1, s1, rfl, rfl, k1⟩ := kind_of_trod h1
      obtain ⟨n2, s2, rfl, rfl, k2⟩ := kind_of_trod h2
      obtain ⟨n3, s3, rfl, rfl, k3⟩ := kind_of_trod h3
      obtain ⟨n4, s4, rfl, rfl, k4⟩ := kind_of_trod h4
      obtain ⟨n5, s5, rfl, rfl, k5⟩ := kind_of_trod h5
      have hx' := congrArg Prod.fst hx
      simp only [List.map_cons, List.map_nil, k0, k1, k2, k3, k4, k5, Rows.laid_cartouche_offs_kinds] at hx'
      simp at hx'
      obtain ⟨⟨rfl, rfl⟩, ⟨rfl, rfl⟩, ⟨rfl, rfl⟩, ⟨rfl, rfl⟩, ⟨rfl, rfl⟩, ⟨rfl, rfl⟩⟩ := hx'
      rfl
    · cases hd
set_option maxRecDepth 100000 in
theorem laid_of {W : World} (h : laidMet Tryz.prog [("cartouche/offs.kinds", Rows.laid_cartouche_offs_kinds)] W) : Laid W := by
  have hv := cells_of_laid h
  simp only [World.var?, kindsG, Option.bind_some] at hv
  split at hv
  · rename_i cs t fz hh
    simp only [Option.some.injEq] at hv
    subst hv
    exact ⟨t, fz, hh⟩
  · cases hv
end Go.Proofs.YthbdmlcbdibiiaaGreatDoor
