/- Symbolic scalar terms: what they denote. -/
import Derived.WalkKit
namespace Go.Sx
noncomputable section

/-- A scalar. -/
inductive Sc where
  | int (n : Int)
  | bool (b : Bool)
  | str (s : List UInt8)
  | list (l : List Sc)

instance : Inhabited Sc := ⟨.int 0⟩

def Sc.asInt : Sc → Int | .int n => n | _ => 0
def Sc.asBool : Sc → Bool | .bool b => b | _ => false
def Sc.asStr : Sc → List UInt8 | .str s => s | _ => []
def Sc.asList : Sc → List Sc | .list l => l | _ => []

@[simp] theorem Sc.asInt_int (n : Int) : (Sc.int n).asInt = n := rfl
@[simp] theorem Sc.asBool_bool (b : Bool) : (Sc.bool b).asBool = b := rfl
@[simp] theorem Sc.asStr_str (s : List UInt8) : (Sc.str s).asStr = s := rfl
@[simp] theorem Sc.asList_list (l : List Sc) : (Sc.list l).asList = l := rfl

inductive Op1 where
  | conv (k : IntKind)
  | compl (k : IntKind)
  | not
  | slen
  | llen
  | nth (i : Nat)
  | chr
  deriving DecidableEq, Repr, Inhabited

inductive Op2 where
  | add (k : IntKind) | sub (k : IntKind) | mul (k : IntKind)
  | quo (k : IntKind) | rem
  | and (k : IntKind) | or (k : IntKind) | xor (k : IntKind) | andNot (k : IntKind)
  | shl (k : IntKind) | shr (k : IntKind)
  | eq | lt | le
  | beq | band | bor
  | seq | slt | cat | sidx | stake | sdrop
  | lget
  deriving DecidableEq, Repr, Inhabited

/-- The model's own words for the operations on bits and shifts. -/
def bitsOp (k : IntKind) (f : BitVec k.bits → BitVec k.bits → BitVec k.bits) (x y : Int) : Int :=
  k.wrap (f (BitVec.ofInt k.bits x) (BitVec.ofInt k.bits y)).toNat
def shlOp (k : IntKind) (x y : Int) : Int := k.wrap (x * 2 ^ (min y.toNat k.bits))
def shrOp (k : IntKind) (x y : Int) : Int := x.fdiv (2 ^ (min y.toNat k.bits))
def complOp (k : IntKind) (n : Int) : Int := bitsOp k (fun a b => a ^^^ b) (if k.signed then -1 else k.max) n

def Op1.ev : Op1 → Sc → Sc
  | .conv k, x => .int (k.wrap x.asInt)
  | .compl k, x => .int (complOp k x.asInt)
  | .not, x => .bool (!x.asBool)
  | .slen, x => .int x.asStr.length
  | .llen, x => .int x.asList.length
  | .nth i, x => x.asList.getD i (.int 0)
  | .chr, x => .str [UInt8.ofNat x.asInt.toNat]

def Op2.ev : Op2 → Sc → Sc → Sc
  | .add k, x, y => .int (k.wrap (x.asInt + y.asInt))
  | .sub k, x, y => .int (k.wrap (x.asInt - y.asInt))
  | .mul k, x, y => .int (k.wrap (x.asInt * y.asInt))
  | .quo k, x, y => .int (k.wrap (x.asInt.tdiv y.asInt))
  | .rem, x, y => .int (x.asInt.tmod y.asInt)
  | .and k, x, y => .int (bitsOp k (fun a b => a &&& b) x.asInt y.asInt)
  | .or k, x, y => .int (bitsOp k (fun a b => a ||| b) x.asInt y.asInt)
  | .xor k, x, y => .int (bitsOp k (fun a b => a ^^^ b) x.asInt y.asInt)
  | .andNot k, x, y => .int (bitsOp k (fun a b => a &&& ~~~b) x.asInt y.asInt)
  | .shl k, x, y => .int (shlOp k x.asInt y.asInt)
  | .shr k, x, y => .int (shrOp k x.asInt y.asInt)
  | .eq, x, y => .bool (x.asInt == y.asInt)
  | .lt, x, y => .bool (decide (x.asInt < y.asInt))
  | .le, x, y => .bool (decide (x.asInt ≤ y.asInt))
  | .beq, x, y => .bool (x.asBool == y.asBool)
  | .band, x, y => .bool (x.asBool && y.asBool)
  | .bor, x, y => .bool (x.asBool || y.asBool)
  | .seq, x, y => .bool (x.asStr == y.asStr)
  | .slt, x, y => .bool (Op.bytesLess x.asStr y.asStr)
  | .cat, x, y => .str (x.asStr ++ y.asStr)
  | .sidx, x, y => .int ((x.asStr.getD y.asInt.toNat 0).toNat)
  | .stake, x, y => .str (x.asStr.take y.asInt.toNat)
  | .sdrop, x, y => .str (x.asStr.drop y.asInt.toNat)
  | .lget, x, y => x.asList.getD y.asInt.toNat (.int 0)

inductive Tm where
  | var (i : Nat)
  | num (n : Int)
  | bit (b : Bool)
  | text (s : List UInt8)
  | op1 (o : Op1) (a : Tm)
  | op2 (o : Op2) (a b : Tm)
  | ite (c a b : Tm)
  | nil
  | cons (a b : Tm)
  | app (g : Nat) (a : Tm)
  deriving DecidableEq, Inhabited, Repr

/-- What a cell of a row's element is. -/
inductive CK where
  | int (k : IntKind) | bool | str
  deriving DecidableEq, Repr, Inhabited

def CK.val : CK → Sc → Value
  | .int k, s => .int k (k.wrap s.asInt)
  | .bool, s => .bool s.asBool
  | .str, s => .string ⟨s.asStr.toArray⟩

/-- The kinds of rows whose elements are read: the cells of an element. -/
def rowK (k : Nat) : List CK :=
  match Nat.beq k 1000, Nat.beq k 1001, Nat.beq k 1002, Nat.beq k 1003, Nat.beq k 1004 with
  | true, _, _, _, _ => [.int .i64]
  | _, true, _, _, _ => [.int .i64, .int .i64, .int .i64, .int .i64, .int .i64, .int .i64, .int .i64, .int .i64, .bool]
  | _, _, true, _, _ => [.str]
  | _, _, _, true, _ => [.int .i64, .str, .int .i64]
  | _, _, _, _, true => [.bool]
  | _, _, _, _, _ => []

/-- A slice whose elements' cells are those of a datum; the blocks that they lie in. -/
def RowOk (cks : List CK) (d : Sc) (v : Value) (F : Nat → Prop) (w : World) : Prop :=
  (∀ q, F q → q < w.heap.size) ∧ ∃ (A : Option Addr) (c : Nat), v = .slice A d.asList.length c ∧ (d.asList ≠ [] → ∃ g off, A = some ⟨g, off, none⟩ ∧ F g ∧
    ∀ (i j : Nat) (ck : CK), i < d.asList.length → cks[j]? = some ck → w.cell? ⟨g, off + i * cks.length + j, none⟩ = some (ck.val ((d.asList.getD i (.int 0)).asList.getD j (.int 0))))

theorem RowOk.stable {cks : List CK} {d : Sc} {v : Value} {F : Nat → Prop} {w w' : World} (h : RowOk cks d v F w) (hb : ∀ b, F b → w'.heap[b]? = w.heap[b]?) : RowOk cks d v F w' := by
  obtain ⟨h0, A, c, h1, h2⟩ := h
  refine ⟨fun q hq => ?_, A, c, h1, fun hn => ?_⟩
  · have := hb q hq
    rw [Array.getElem?_eq_getElem (h0 q hq)] at this
    exact (Array.getElem?_eq_some_iff.1 this).1
  · obtain ⟨g, off, e, hg, hc⟩ := h2 hn
    refine ⟨g, off, e, hg, fun i j ck hi hj => ?_⟩
    rw [← hc i j ck hi hj]
    exact World.cell?_of_block (a := ⟨g, off + i * cks.length + j, none⟩) (hb g hg)

/-- The kinds from 2000 on: what is no slice: 2000: a place in a text that is gone over; 2001: a map of texts to truths, or any that has nothing; 2004: a map that has nothing, gone over; 2005: bytes of a text; 2007: a slice that has nothing. -/
def ObjOk (k : Nat) (d : Sc) (v : Value) (F : Nat → Prop) (w : World) : Prop :=
  (k = 2000 ∧ ∃ (r : Nat) (s : List UInt8) (pos : Nat), F = (· = r) ∧ v = .pointer (some ⟨r, 0, none⟩) ∧ d = .list [.str s, .int pos] ∧ w.heap[r]? = some (.stringIter ⟨s.toArray⟩ pos)) ∨
  (k = 2001 ∧ ∃ (r : Nat) (l : List (List UInt8 × Bool)), F = (· = r) ∧ v = .map (some r) ∧ d = .list (l.map fun p => .list [.str p.1, .bool p.2]) ∧
      w.heap[r]? = some (.map (l.zipIdx.map fun p => { key := .string ⟨p.1.1.toArray⟩, val := .bool p.1.2, born := p.2 }).toArray l.length)) ∨
  (k = 2004 ∧ ∃ r m : Nat, F = (fun q => q = r ∨ q = m) ∧ v = .pointer (some ⟨r, 0, none⟩) ∧ w.heap[r]? = some (.mapIter (some m) 0 #[] 0) ∧ w.heap[m]? = some (.map #[] 0)) ∨
  (k = 2005 ∧ ∃ (r : Nat) (l : List UInt8) (c : Nat), F = (· = r) ∧ v = .slice (some ⟨r, 0, none⟩) l.length c ∧ d = .list [.str l] ∧ r < w.heap.size ∧ ∀ (j : Nat) (b : UInt8), l[j]? = some b → w.cell? ⟨r, j, none⟩ = some (.int .u8 b.toNat)) ∨
  (k = 2007 ∧ F = (fun _ => False) ∧ ∃ (p : Option Addr) (c : Nat), v = .slice p 0 c)

theorem ObjOk.stable {k : Nat} {d : Sc} {v : Value} {F : Nat → Prop} {w w' : World} (h : ObjOk k d v F w) (hb : ∀ b, F b → w'.heap[b]? = w.heap[b]?) : ObjOk k d v F w' := by
  rcases h with ⟨h0, r, s, pos, rfl, h1, h2, h3⟩ | ⟨h0, r, l, rfl, h1, h2, h3⟩ | ⟨h0, r, m, rfl, h1, h2, h3⟩ | ⟨h0, r, l, c, rfl, h1, h2, h3, h4⟩ | h7
  · exact .inl ⟨h0, r, s, pos, rfl, h1, h2, (hb r rfl).trans h3⟩
  · exact .inr (.inl ⟨h0, r, l, rfl, h1, h2, (hb r rfl).trans h3⟩)
  · exact .inr (.inr (.inl ⟨h0, r, m, rfl, h1, (hb r (.inl rfl)).trans h2, (hb m (.inr rfl)).trans h3⟩))
  · have e := hb r rfl
    refine .inr (.inr (.inr (.inl ⟨h0, r, l, c, rfl, h1, h2, ?_, fun j b hj => ?_⟩)))
    · rw [Array.getElem?_eq_getElem h3] at e
      exact (Array.getElem?_eq_some_iff.1 e).1
    · rw [← h4 j b hj]
      unfold World.cell?
      simp only [e]
  · exact .inr (.inr (.inr (.inr h7)))

theorem ObjOk.lt {k : Nat} {d : Sc} {v : Value} {F : Nat → Prop} {w : World} {b : Nat} (h : ObjOk k d v F w) (hb : F b) : b < w.heap.size := by
  rcases h with ⟨h0, r, s, pos, rfl, h1, h2, h3⟩ | ⟨h0, r, l, rfl, h1, h2, h3⟩ | ⟨h0, r, m, rfl, h1, h2, h3⟩ | ⟨h0, r, l, c, rfl, h1, h2, h3, h4⟩ | ⟨h0, rfl, h1⟩
  · obtain rfl : b = r := hb
    exact (Array.getElem?_eq_some_iff.1 h3).1
  · obtain rfl : b = r := hb
    exact (Array.getElem?_eq_some_iff.1 h3).1
  · rcases hb with rfl | rfl
    · exact (Array.getElem?_eq_some_iff.1 h2).1
    · exact (Array.getElem?_eq_some_iff.1 h3).1
  · obtain rfl : b = r := hb
    exact h3
  · exact hb.elim

/-- What values of the memory stand for by kinds: kind, datum, value, the blocks that it lies in, the world. -/
structure Abs where
  P : Nat → Sc → Value → (Nat → Prop) → World → Prop
  stable : ∀ k d v F w w', P k d v F w → (∀ b, F b → w'.heap[b]? = w.heap[b]?) → P k d v F w'
  lt : ∀ k d v F w b, P k d v F w → F b → b < w.heap.size
  /-- kinds below 100 are those of slices -/
  len : ∀ k d v F w, k < 100 → P k d v F w → ∃ (p : Option Addr) (c : Nat), v = .slice p d.asList.length c
  /-- kinds of rows that are read -/
  rows : ∀ k d v F w, rowK k ≠ [] → P k d v F w → RowOk (rowK k) d v F w
  /-- kinds of what is no slice -/
  objs : ∀ k d v F w, 2000 ≤ k → (P k d v F w ↔ ObjOk k d v F w)
  /-- blocks that nobody changes -/
  B : Nat → Prop

theorem rowK_low {k : Nat} (h : rowK k ≠ []) : k < 2000 := by
  apply Nat.lt_of_not_le
  intro hk
  apply h
  have b : ∀ n, n < 2000 → Nat.beq k n = false := fun n hn => by
    cases hb : Nat.beq k n
    · rfl
    · have := Nat.eq_of_beq_eq_true hb; omega
  unfold rowK
  simp only [b 1000 (by omega), b 1001 (by omega), b 1002 (by omega), b 1003 (by omega), b 1004 (by omega)]

def Abs.no : Abs := ⟨fun k d v F w => 2000 ≤ k ∧ ObjOk k d v F w, fun _ _ _ _ _ _ h hb => ⟨h.1, h.2.stable hb⟩, fun _ _ _ _ _ _ h hb => h.2.lt hb, fun _ _ _ _ _ hk h => by omega, fun _ _ _ _ _ hk h => by have := rowK_low hk; omega, fun _ _ _ _ _ hk => ⟨fun h => h.2, fun h => ⟨hk, h⟩⟩, fun _ => False⟩

/-- What the variables and the function signs stand for. -/
structure Env where
  v : Nat → Sc
  f : Nat → List Sc → Sc
  val : Nat → Value
  ab : Abs

def Tm.den (ρ : Env) : Tm → Sc
  | .var i => ρ.v i
  | .num n => .int n
  | .bit b => .bool b
  | .text s => .str s
  | .op1 o a => o.ev (a.den ρ)
  | .op2 o a b => o.ev (a.den ρ) (b.den ρ)
  | .ite c a b => match (c.den ρ).asBool with | true => a.den ρ | false => b.den ρ
  | .nil => .list []
  | .cons a b => .list (a.den ρ :: (b.den ρ).asList)
  | .app g a => ρ.f g (a.den ρ).asList

def Tm.int (ρ : Env) (t : Tm) : Int := (t.den ρ).asInt
def Tm.bool (ρ : Env) (t : Tm) : Bool := (t.den ρ).asBool
def Tm.str (ρ : Env) (t : Tm) : List UInt8 := (t.den ρ).asStr

/-! ### Literals -/

def Tm.lit? : Tm → Option Sc
  | .num n => some (.int n)
  | .bit b => some (.bool b)
  | .text s => some (.str s)
  | _ => none

def Sc.quote? : Sc → Option Tm
  | .int n => some (.num n)
  | .bool b => some (.bit b)
  | .str s => some (.text s)
  | .list _ => none

theorem Tm.lit?_den {t : Tm} {s : Sc} (ρ : Env) (h : t.lit? = some s) : t.den ρ = s := by
  cases t <;> simp [Tm.lit?] at h <;> subst h <;> rfl

theorem Sc.quote?_den {s : Sc} {t : Tm} (ρ : Env) (h : s.quote? = some t) : t.den ρ = s := by
  cases s <;> simp [Sc.quote?] at h <;> subst h <;> rfl

end
end Go.Sx

/- The bits of whole numbers. -/
namespace Go.Sx
noncomputable section

def bitI (n : Int) (i : Nat) : Bool := decide (n / 2 ^ i % 2 = 1)

theorem bitI_zero (n : Int) : bitI n 0 = decide (n % 2 = 1) := by simp [bitI]

theorem bitI_succ (n : Int) (i : Nat) : bitI n (i + 1) = bitI (n / 2) i := by
  unfold bitI
  rw [Int.pow_succ', Int.ediv_ediv_of_nonneg (by omega)]

theorem bitI_two (n : Int) (b : Bool) : bitI (2 * n + (if b then 1 else 0)) 0 = b := by
  rw [bitI_zero]; cases b <;> simp <;> omega

theorem bitI_two_succ (n : Int) (b : Bool) (i : Nat) : bitI (2 * n + (if b then 1 else 0)) (i + 1) = bitI n i := by
  rw [bitI_succ]; congr 1; cases b <;> simp <;> omega

theorem bitI_nat (n i : Nat) : bitI n i = n.testBit i := by
  unfold bitI
  rw [Nat.testBit_eq_decide_div_mod_eq]
  have h : ((n : Int) / 2 ^ i % 2) = ((n / 2 ^ i % 2 : Nat) : Int) := by simp
  rw [h]
  exact decide_eq_decide.2 (by omega)

theorem bitI_sub_mul (n q : Int) (w i : Nat) (h : i < w) : bitI (n - 2 ^ w * q) i = bitI n i := by
  unfold bitI
  obtain ⟨d, rfl⟩ : ∃ d, w = i + 1 + d := ⟨w - i - 1, by omega⟩
  have e : n - 2 ^ (i + 1 + d) * q = n + 2 ^ i * (2 * (-(2 ^ d * q))) := by
    rw [Int.pow_add, Int.pow_succ]
    have : (2 : Int) ^ i * 2 * 2 ^ d * q = 2 ^ i * (2 * (2 ^ d * q)) := by simp only [Int.mul_assoc]
    rw [this]
    have : 2 * (-(2 ^ d * q : Int)) = -(2 * (2 ^ d * q)) := by omega
    rw [this, Int.mul_neg]
    omega
  rw [e, Int.add_mul_ediv_left _ _ (by exact Int.ne_of_gt (Int.pow_pos (by omega)))]
  have : (n / 2 ^ i + 2 * -(2 ^ d * q)) % 2 = n / 2 ^ i % 2 := by omega
  rw [this]

theorem bitI_emod (n : Int) (w i : Nat) (h : i < w) : bitI (n % 2 ^ w) i = bitI n i := by
  rw [Int.emod_def]; exact bitI_sub_mul n _ w i h

theorem bitI_wrap (k : IntKind) (n : Int) (i : Nat) (h : i < k.bits) : bitI (k.wrap n) i = bitI n i := by
  unfold IntKind.wrap
  simp only
  split
  · have := bitI_sub_mul (n % 2 ^ k.bits) 1 k.bits i h
    rw [Int.mul_one] at this
    rw [this]; exact bitI_emod _ _ _ h
  · exact bitI_emod _ _ _ h

/-- Far up stands the sign. -/
theorem bitI_high (n : Int) (k i : Nat) (h1 : -2 ^ k ≤ n) (h2 : n < 2 ^ k) (h : k ≤ i) : bitI n i = decide (n < 0) := by
  unfold bitI
  have hk : (2 : Int) ^ k ≤ 2 ^ i := by
    exact_mod_cast Nat.pow_le_pow_right (by omega) h
  have hp : (0 : Int) < 2 ^ i := Int.pow_pos (by omega)
  by_cases hn : n < 0
  · have e : n / 2 ^ i = -1 := by
      have h3 : n / 2 ^ i < 0 := Int.ediv_neg_of_neg_of_pos hn hp
      have h4 : -1 ≤ n / 2 ^ i := by
        rw [Int.le_ediv_iff_mul_le hp]; omega
      omega
    rw [e]; simp [hn]
  · have e : n / 2 ^ i = 0 := Int.ediv_eq_zero_of_lt (by omega) (by omega)
    rw [e]; simp [hn]

/-- Numbers of so many bits that have the same bits are the same. -/
theorem eq_of_bits (w : Nat) (x y : Int) (hx : 0 ≤ x) (hx' : x < 2 ^ w) (hy : 0 ≤ y) (hy' : y < 2 ^ w) (h : ∀ i, i < w → bitI x i = bitI y i) : x = y := by
  obtain ⟨a, rfl⟩ := Int.eq_ofNat_of_zero_le hx
  obtain ⟨b, rfl⟩ := Int.eq_ofNat_of_zero_le hy
  have ha : a < 2 ^ w := by exact_mod_cast hx'
  have hb : b < 2 ^ w := by exact_mod_cast hy'
  congr 1
  apply Nat.eq_of_testBit_eq
  intro i
  by_cases hi : i < w
  · rw [← bitI_nat, ← bitI_nat]; exact h i hi
  · rw [Nat.testBit_lt_two_pow (Nat.lt_of_lt_of_le ha (Nat.pow_le_pow_right (by omega) (by omega))), Nat.testBit_lt_two_pow (Nat.lt_of_lt_of_le hb (Nat.pow_le_pow_right (by omega) (by omega)))]

theorem mod_of_bits (w : Nat) (x y : Int) (h : ∀ i, i < w → bitI x i = bitI y i) : x % 2 ^ w = y % 2 ^ w := by
  have hp : (0 : Int) < 2 ^ w := Int.pow_pos (by omega)
  refine eq_of_bits w _ _ (Int.emod_nonneg _ (by omega)) (Int.emod_lt_of_pos _ hp) (Int.emod_nonneg _ (by omega)) (Int.emod_lt_of_pos _ hp) ?_
  intro i hi
  rw [bitI_emod _ _ _ hi, bitI_emod _ _ _ hi]; exact h i hi

/-- A number that a kind has. -/
def kHas (k : IntKind) (n : Int) : Prop := match k.signed with | true => -2 ^ (k.bits - 1) ≤ n ∧ n < 2 ^ (k.bits - 1) | false => 0 ≤ n ∧ n < 2 ^ k.bits

theorem bits_pos (k : IntKind) : 0 < k.bits := by cases k <;> decide

theorem two_bits (k : IntKind) : (2 : Int) ^ k.bits = 2 * 2 ^ (k.bits - 1) := by
  have := bits_pos k
  rw [← Int.pow_succ']; congr 1; omega

theorem wrap_has (k : IntKind) (n : Int) : kHas k (k.wrap n) := by
  unfold kHas IntKind.wrap
  have hp : (0 : Int) < 2 ^ k.bits := Int.pow_pos (by omega)
  have h1 := Int.emod_nonneg n (Int.ne_of_gt hp)
  have h2 := Int.emod_lt_of_pos n hp
  have h3 := two_bits k
  cases hs : k.signed <;> simp
  · exact ⟨h1, h2⟩
  · split <;> omega

/-- A kind's numbers are told by their bits. -/
theorem eq_of_has {k : IntKind} {x y : Int} (hx : kHas k x) (hy : kHas k y) (h : ∀ i, i < k.bits → bitI x i = bitI y i) : x = y := by
  have e := mod_of_bits k.bits x y h
  unfold kHas at hx hy
  have hp : (0 : Int) < 2 ^ k.bits := Int.pow_pos (by omega)
  have h3 := two_bits k
  split at hx <;> simp_all
  · have a1 := Int.emod_def x (2 ^ k.bits)
    have a2 := Int.emod_def y (2 ^ k.bits)
    have b1 := Int.emod_nonneg x (Int.ne_of_gt hp)
    by_cases c1 : 0 ≤ x <;> by_cases c2 : 0 ≤ y
    · rw [Int.emod_eq_of_lt c1 (by omega), Int.emod_eq_of_lt c2 (by omega)] at e; exact e
    · rw [Int.emod_eq_of_lt c1 (by omega), ← Int.add_mul_emod_self_left y _ 1, Int.emod_eq_of_lt (by omega) (by omega)] at e; omega
    · rw [Int.emod_eq_of_lt c2 (by omega), ← Int.add_mul_emod_self_left x _ 1, Int.emod_eq_of_lt (by omega) (by omega)] at e; omega
    · rw [← Int.add_mul_emod_self_left x _ 1, Int.emod_eq_of_lt (by omega) (by omega), ← Int.add_mul_emod_self_left y _ 1, Int.emod_eq_of_lt (by omega) (by omega)] at e; omega
  · rw [Int.emod_eq_of_lt hx.1 hx.2, Int.emod_eq_of_lt hy.1 hy.2] at e; exact e

theorem wrap_eq {k : IntKind} {n m : Int} (hm : kHas k m) (h : ∀ i, i < k.bits → bitI m i = bitI n i) : k.wrap n = m :=
  eq_of_has (wrap_has k n) hm (fun i hi => by rw [bitI_wrap k n i hi, h i hi])

theorem ofInt_bit (w : Nat) (n : Int) (i : Nat) (h : i < w) : (BitVec.ofInt w n).toNat.testBit i = bitI n i := by
  rw [BitVec.toNat_ofInt, ← bitI_nat]
  have hp : (0 : Int) < 2 ^ w := Int.pow_pos (by omega)
  have h1 := Int.emod_nonneg n (Int.ne_of_gt hp)
  have e : ((n % ((2 ^ w : Nat) : Int)).toNat : Int) = n % 2 ^ w := by
    push_cast
    exact Int.toNat_of_nonneg h1
  rw [e]; exact bitI_emod _ _ _ h

theorem bitsOp_bit (k : IntKind) (f : BitVec k.bits → BitVec k.bits → BitVec k.bits) (g : Bool → Bool → Bool)
    (hf : ∀ (a b : BitVec k.bits) i, i < k.bits → (f a b).getLsbD i = g (a.getLsbD i) (b.getLsbD i)) (x y : Int) (i : Nat) (h : i < k.bits) :
    bitI (bitsOp k f x y) i = g (bitI x i) (bitI y i) := by
  unfold bitsOp
  rw [bitI_wrap _ _ _ h, bitI_nat]
  have := hf (BitVec.ofInt k.bits x) (BitVec.ofInt k.bits y) i h
  simp only [BitVec.getLsbD] at this
  rw [this, ofInt_bit _ _ _ h, ofInt_bit _ _ _ h]

theorem bitsOp_has (k : IntKind) (f : BitVec k.bits → BitVec k.bits → BitVec k.bits) (x y : Int) : kHas k (bitsOp k f x y) := wrap_has _ _

end
end Go.Sx

/- What the form of a term tells of its bits. -/
namespace Go.Sx
noncomputable section

/-- Of 64 bits: those that are not known; those that are ones. -/
structure Know (x : Nat × Nat) (n : Int) : Prop where
  m : x.1 < 2 ^ 64
  v : x.2 < 2 ^ 64
  ap : ∀ i, x.2.testBit i = true → x.1.testBit i = false
  bits : ∀ i, i < 64 → x.1.testBit i = false → bitI n i = x.2.testBit i

def kAll : Nat × Nat := (18446744073709551615, 0)

def kAnd (x y : Nat × Nat) : Nat × Nat :=
  let d := Nat.land x.2 y.2
  (Nat.xor (Nat.land (Nat.lor x.1 x.2) (Nat.lor y.1 y.2)) d, d)

def kOr (x y : Nat × Nat) : Nat × Nat :=
  let d := Nat.lor x.2 y.2
  (Nat.xor (Nat.lor (Nat.lor x.1 y.1) d) d, d)

def kIte (x y : Nat × Nat) : Nat × Nat :=
  let m := Nat.lor (Nat.lor x.1 y.1) (Nat.xor x.2 y.2)
  (m, Nat.xor (Nat.lor x.2 m) m)

def kShl (x : Nat × Nat) (c : Nat) : Nat × Nat := (Nat.mod (Nat.shiftLeft x.1 c) 18446744073709551616, Nat.mod (Nat.shiftLeft x.2 c) 18446744073709551616)

/-- The bits of 64 from one on. -/
def kTop (k : Nat) : Nat := Nat.shiftLeft (Nat.shiftRight 18446744073709551615 k) k

def kShr (z : Bool) (x : Nat × Nat) (c : Nat) : Nat × Nat :=
  match z && Nat.blt (Nat.lor x.1 x.2) 9223372036854775808 with
  | true => (Nat.shiftRight x.1 c, Nat.shiftRight x.2 c)
  | false => let t := kTop (64 - c); (Nat.lor (Nat.shiftRight x.1 c) t, Nat.xor (Nat.lor (Nat.shiftRight x.2 c) t) t)

/-- The lowest bits alone. -/
def kLow (b : Nat) (x : Nat × Nat) : Nat × Nat := (Nat.mod x.1 (Nat.pow 2 b), Nat.mod x.2 (Nat.pow 2 b))

def kXor (x y : Nat × Nat) : Nat × Nat :=
  let m := Nat.lor x.1 y.1
  (m, Nat.xor (Nat.lor (Nat.xor x.2 y.2) m) m)

/-- A kind all of whose numbers are of 64 bits. -/
def isIn : IntKind → Bool
  | .i64 | .u32 | .u8 => true
  | _ => false

/-- The term's number is one of 64 bits. -/
def in64 : Tm → Bool
  | .num n => decide (-9223372036854775808 ≤ n) && decide (n < 9223372036854775808)
  | .op1 (.conv k) _ => isIn k
  | .op2 (.and k) _ _ => isIn k
  | .op2 (.or k) _ _ => isIn k
  | .op2 (.xor k) _ _ => isIn k
  | .op2 (.add k) _ _ => isIn k
  | .op2 (.sub k) _ _ => isIn k
  | .op2 (.mul k) _ _ => isIn k
  | .op2 (.shl k) _ _ => isIn k
  | .op2 (.quo k) _ _ => isIn k
  | .op2 (.shr _) a _ => in64 a
  | .op2 .rem a _ => in64 a
  | .ite _ a b => in64 a && in64 b
  | _ => false

def kPow (n : Nat) : Option Nat := match Nat.beq (Nat.pow 2 (Nat.log2 n)) n && Nat.blt (Nat.log2 n) 64 with | true => some (Nat.log2 n) | false => none

def kw : Nat → Tm → Nat × Nat
  | 0, _ => kAll
  | d + 1, t =>
    match t with
    | .num n => (0, (n % 18446744073709551616).toNat)
    | .op1 (.conv .i64) a => kw d a
    | .op2 (.and .i64) a b => kAnd (kw d a) (kw d b)
    | .op2 (.or .i64) a b => kOr (kw d a) (kw d b)
    | .op2 (.add .i64) a b =>
      let x := kw d a
      let y := kw d b
      match Nat.beq (Nat.land (Nat.lor x.1 x.2) (Nat.lor y.1 y.2)) 0 with
      | true => kOr x y
      | false => kAll
    | .op2 (.shl .i64) a (.num (.ofNat c)) => match Nat.blt c 64 with
      | true => kShl (kw d a) c
      | false => kAll
    | .op2 (.mul .i64) a (.num (.ofNat c)) => match kPow c with
      | some c => kShl (kw d a) c
      | none => kAll
    | .op2 (.shr .i64) a (.num (.ofNat c)) => match Nat.blt c 64 with
      | true => kShr (in64 a) (kw d a) c
      | false => kAll
    | .ite _ a b => kIte (kw d a) (kw d b)
    | .op1 (.conv .u32) a => kLow 32 (kw d a)
    | .op1 (.conv .u8) a => kLow 8 (kw d a)
    | .op2 (.and .u32) a b => kLow 32 (kAnd (kw d a) (kw d b))
    | .op2 (.or .u32) a b => kLow 32 (kOr (kw d a) (kw d b))
    | .op2 (.xor .u32) a b => kLow 32 (kXor (kw d a) (kw d b))
    | .op2 (.shl .u32) a (.num (.ofNat c)) => match Nat.blt c 32 with
      | true => kLow 32 (kShl (kw d a) c)
      | false => kAll
    | .op2 (.shr .u32) a (.num (.ofNat c)) => match Nat.blt c 32 with
      | true => kShr (in64 a) (kw d a) c
      | false => kAll
    | .op2 (.quo .i64) a (.num (.ofNat c)) => match kPow c, in64 a with
      | some c, true =>
        let x := kw d a
        match Nat.blt (Nat.lor x.1 x.2) 9223372036854775808 with
        | true => kShr true x c
        | false => kAll
      | _, _ => kAll
    | .op2 (.quo .u32) a (.num (.ofNat c)) => match kPow c, in64 a with
      | some c, true =>
        let x := kw d a
        match Nat.blt (Nat.lor x.1 x.2) 4294967296 with
        | true => kShr true x c
        | false => kAll
      | _, _ => kAll
    | .op2 .rem a (.num (.ofNat c)) => match kPow c, in64 a with
      | some c, true =>
        let x := kw d a
        match Nat.blt (Nat.lor x.1 x.2) 9223372036854775808 with
        | true => kLow c x
        | false => kAll
      | _, _ => kAll
    | _ => kAll

/-- A number's least and greatest, where it is not below 0. -/
def bnd (t : Tm) : Option (Int × Int) :=
  match t with
  | .num n => some (n, n)
  | t => match in64 t with
    | true => let x := kw 8 t
      match Nat.blt (Nat.lor x.1 x.2) 9223372036854775808 with
      | true => some (.ofNat x.2, .ofNat (Nat.lor x.1 x.2))
      | false => none
    | false => none

def foldN (t : Tm) : Tm :=
  match in64 t with
  | true => match kw 8 t with
    | (0, v) => match Nat.blt v 9223372036854775808 with
      | true => .num (.ofNat v)
      | false => t
    | _ => t
  | false => t

/-- A term that is a truth by its form. -/
def Tm.tru : Tm → Bool
  | .bit _ => true
  | .op1 .not _ => true
  | .op2 .eq _ _ | .op2 .lt _ _ | .op2 .le _ _ | .op2 .beq _ _ | .op2 .band _ _ | .op2 .bor _ _ | .op2 .seq _ _ | .op2 .slt _ _ => true
  | _ => false

theorem tru_ok (ρ : Env) (a : Tm) (h : a.tru = true) : a.den ρ = .bool (a.den ρ).asBool := by
  unfold Tm.tru at h
  split at h <;> first | rfl | cases h

def fold2 (o : Op2) (a b : Tm) : Tm :=
  match o with
  | .eq =>
    let x := kw 8 a
    let y := kw 8 b
    let u := Nat.lor x.1 y.1
    match Nat.beq (Nat.lor (Nat.xor x.2 y.2) u) u with
    | true => .op2 .eq a b
    | false => .bit false
  | .le => match bnd a, bnd b with
    | some x, some y => match decide (x.2 ≤ y.1) with
      | true => .bit true
      | false => match decide (y.2 < x.1) with
        | true => .bit false
        | false => .op2 .le a b
    | _, _ => .op2 .le a b
  | .lt => match bnd a, bnd b with
    | some x, some y => match decide (x.2 < y.1) with
      | true => .bit true
      | false => match decide (y.2 ≤ x.1) with
        | true => .bit false
        | false => .op2 .lt a b
    | _, _ => .op2 .lt a b
  | .and .i64 => match a, b with
    | .op2 (.and .i64) x (.num (.ofNat c)), .num (.ofNat d) => foldN (.op2 (.and .i64) x (.num (.ofNat (Nat.land c d))))
    | a, b => foldN (.op2 (.and .i64) a b)
  | .or .i64 => foldN (.op2 (.or .i64) a b)
  | .add .i64 => foldN (.op2 (.add .i64) a b)
  | .shl .i64 => foldN (.op2 (.shl .i64) a b)
  | .shr .i64 => match in64 a, b with
    | true, .num (.ofNat 0) => a
    | _, _ => foldN (.op2 (.shr .i64) a b)
  | .beq => match a.tru, b with
    | true, .bit true => a
    | true, .bit false => .op1 .not a
    | _, _ => foldN (.op2 .beq a b)
  | o => foldN (.op2 o a b)

/-! ### That it is so -/

theorem blt_lt {a b : Nat} (h : Nat.blt a b = true) : a < b := Nat.le_of_ble_eq_true h

theorem Know.all (n : Int) : Know kAll n := by
  refine ⟨by decide, by decide, ?_, ?_⟩
  · intro i h; simp [kAll] at h
  · intro i hi h
    have : (18446744073709551615 : Nat) = 2 ^ 64 - 1 := by decide
    simp only [kAll, this, Nat.testBit_two_pow_sub_one, decide_eq_false_iff_not] at h
    omega

theorem lt64_of_bits {x : Nat} (h : ∀ i, 64 ≤ i → x.testBit i = false) : x < 2 ^ 64 := Nat.lt_pow_two_of_testBit x h

theorem bit_far {x : Nat} (h : x < 2 ^ 64) {i : Nat} (hi : 64 ≤ i) : x.testBit i = false :=
  Nat.testBit_lt_two_pow (Nat.lt_of_lt_of_le h (Nat.pow_le_pow_right (by omega) hi))

theorem land_bit (a b i : Nat) : (Nat.land a b).testBit i = (a.testBit i && b.testBit i) := Nat.testBit_and a b i
theorem lor_bit (a b i : Nat) : (Nat.lor a b).testBit i = (a.testBit i || b.testBit i) := Nat.testBit_or a b i
theorem nxor_bit (a b i : Nat) : (Nat.xor a b).testBit i = (a.testBit i ^^ b.testBit i) := Nat.testBit_xor a b i
theorem shl_bit (a c i : Nat) : (Nat.shiftLeft a c).testBit i = (decide (c ≤ i) && a.testBit (i - c)) := Nat.testBit_shiftLeft a
theorem shr_bit (a c i : Nat) : (Nat.shiftRight a c).testBit i = a.testBit (c + i) := Nat.testBit_shiftRight a

theorem Know.and {x y : Nat × Nat} {n p r : Int} (hx : Know x n) (hy : Know y p) (hr : ∀ i, i < 64 → bitI r i = (bitI n i && bitI p i)) : Know (kAnd x y) r := by
  refine ⟨?_, ?_, ?_, ?_⟩
  · apply lt64_of_bits
    intro i hi
    simp only [kAnd, nxor_bit, land_bit, lor_bit, bit_far hx.m hi, bit_far hx.v hi]; rfl
  · apply lt64_of_bits
    intro i hi
    simp only [kAnd, land_bit, bit_far hx.v hi]; rfl
  · intro i h
    simp only [kAnd, land_bit, Bool.and_eq_true] at h
    have a := hx.ap i h.1
    have b := hy.ap i h.2
    simp only [kAnd, nxor_bit, land_bit, lor_bit, a, b, h.1, h.2]; rfl
  · intro i hi h
    have a := hx.bits i hi
    have b := hy.bits i hi
    have c := hx.ap i
    have d := hy.ap i
    simp only [kAnd, nxor_bit, land_bit, lor_bit] at h
    simp only [kAnd, land_bit, hr i hi]
    cases h1 : x.1.testBit i <;> cases h2 : x.2.testBit i <;> cases h3 : y.1.testBit i <;> cases h4 : y.2.testBit i <;> simp_all

theorem Know.or {x y : Nat × Nat} {n p r : Int} (hx : Know x n) (hy : Know y p) (hr : ∀ i, i < 64 → bitI r i = (bitI n i || bitI p i)) : Know (kOr x y) r := by
  refine ⟨?_, ?_, ?_, ?_⟩
  · apply lt64_of_bits
    intro i hi
    simp only [kOr, nxor_bit, lor_bit, bit_far hx.m hi, bit_far hx.v hi, bit_far hy.m hi, bit_far hy.v hi]; rfl
  · apply lt64_of_bits
    intro i hi
    simp only [kOr, lor_bit, bit_far hx.v hi, bit_far hy.v hi]; rfl
  · intro i h
    simp only [kOr, lor_bit] at h
    simp only [kOr, nxor_bit, lor_bit, h]
    cases x.1.testBit i <;> cases y.1.testBit i <;> rfl
  · intro i hi h
    have a := hx.bits i hi
    have b := hy.bits i hi
    have c := hx.ap i
    have d := hy.ap i
    simp only [kOr, nxor_bit, lor_bit] at h
    simp only [kOr, lor_bit, hr i hi]
    cases h1 : x.1.testBit i <;> cases h2 : x.2.testBit i <;> cases h3 : y.1.testBit i <;> cases h4 : y.2.testBit i <;> simp_all

theorem Know.ite {x y : Nat × Nat} {n p : Int} (c : Bool) (hx : Know x n) (hy : Know y p) : Know (kIte x y) (match c with | true => n | false => p) := by
  refine ⟨?_, ?_, ?_, ?_⟩
  · apply lt64_of_bits
    intro i hi
    simp only [kIte, nxor_bit, lor_bit, bit_far hx.m hi, bit_far hx.v hi, bit_far hy.m hi, bit_far hy.v hi]; rfl
  · apply lt64_of_bits
    intro i hi
    simp only [kIte, nxor_bit, lor_bit, bit_far hx.m hi, bit_far hx.v hi, bit_far hy.m hi, bit_far hy.v hi]; rfl
  · intro i h
    simp only [kIte, nxor_bit, lor_bit] at h ⊢
    cases h1 : x.1.testBit i <;> cases h2 : x.2.testBit i <;> cases h3 : y.1.testBit i <;> cases h4 : y.2.testBit i <;> simp_all
  · intro i hi h
    have a := hx.bits i hi
    have b := hy.bits i hi
    simp only [kIte, nxor_bit, lor_bit] at h ⊢
    cases c <;> cases h1 : x.1.testBit i <;> cases h2 : x.2.testBit i <;> cases h3 : y.1.testBit i <;> cases h4 : y.2.testBit i <;> simp_all

theorem bitI_shl (n : Int) (c i : Nat) : bitI (n * 2 ^ c) i = (decide (c ≤ i) && bitI n (i - c)) := by
  unfold bitI
  by_cases h : c ≤ i
  · obtain ⟨d, rfl⟩ : ∃ d, i = c + d := ⟨i - c, by omega⟩
    have e : (n * 2 ^ c) / 2 ^ (c + d) = n / 2 ^ d := by
      rw [Int.pow_add, Int.mul_comm n, Int.mul_ediv_mul_of_pos _ _ (Int.pow_pos (by omega))]
    rw [e]; simp
  · obtain ⟨d, rfl⟩ : ∃ d, c = i + 1 + d := ⟨c - i - 1, by omega⟩
    have e : (n * 2 ^ (i + 1 + d)) / 2 ^ i = 2 * (n * 2 ^ d) := by
      have : n * 2 ^ (i + 1 + d) = 2 * (n * 2 ^ d) * 2 ^ i := by
        rw [Int.pow_add, Int.pow_succ]
        simp only [Int.mul_comm, Int.mul_left_comm, Int.mul_assoc]
      rw [this, Int.mul_ediv_cancel _ (Int.ne_of_gt (Int.pow_pos (by omega)))]
    rw [e]
    have h0 : ¬ (i + 1 + d ≤ i) := by omega
    simp [h0]

theorem bitI_shr (n : Int) (c i : Nat) : bitI (n / 2 ^ c) i = bitI n (c + i) := by
  unfold bitI
  rw [Int.ediv_ediv_of_nonneg (Int.le_of_lt (Int.pow_pos (by omega))), ← Int.pow_add]

theorem mod64_bit (a i : Nat) : (Nat.mod a 18446744073709551616).testBit i = (decide (i < 64) && a.testBit i) := by
  have : (18446744073709551616 : Nat) = 2 ^ 64 := by decide
  rw [this]
  exact Nat.testBit_mod_two_pow a 64 i

theorem Know.shl {x : Nat × Nat} {n r : Int} (c : Nat) (hx : Know x n) (hr : ∀ i, i < 64 → bitI r i = (decide (c ≤ i) && bitI n (i - c))) : Know (kShl x c) r := by
  refine ⟨?_, ?_, ?_, ?_⟩
  · exact Nat.mod_lt _ (by decide)
  · exact Nat.mod_lt _ (by decide)
  · intro i h
    simp only [kShl, mod64_bit, shl_bit, Bool.and_eq_true] at h
    simp only [kShl, mod64_bit, shl_bit, hx.ap _ h.2.2, Bool.and_false]
  · intro i hi h
    simp only [kShl, mod64_bit, shl_bit, hi, decide_true, Bool.true_and] at h ⊢
    rw [hr i hi]
    by_cases hc : c ≤ i
    · simp only [hc, decide_true, Bool.true_and] at h ⊢
      exact hx.bits _ (by omega) h
    · simp [hc]

theorem kTop_bit (k i : Nat) : (kTop k).testBit i = (decide (k ≤ i) && decide (i < 64)) := by
  unfold kTop
  rw [shl_bit, shr_bit]
  have : (18446744073709551615 : Nat) = 2 ^ 64 - 1 := by decide
  rw [this, Nat.testBit_two_pow_sub_one]
  by_cases h : k ≤ i
  · simp only [h, decide_true, Bool.true_and]
    congr 1
    exact propext ⟨fun _ => by omega, fun _ => by omega⟩
  · simp [h]

theorem Know.shr {z : Bool} {x : Nat × Nat} {n : Int} (c : Nat) (hc : c < 64) (hx : Know x n) (hz : z = true → -2 ^ 63 ≤ n ∧ n < 2 ^ 63) : Know (kShr z x c) (n / 2 ^ c) := by
  unfold kShr
  split
  · rename_i h
    simp only [Bool.and_eq_true] at h
    obtain ⟨h1, h2⟩ := hz h.1
    have hlt : Nat.lor x.1 x.2 < 2 ^ 63 := blt_lt h.2
    have hb : ∀ i, 63 ≤ i → x.1.testBit i = false ∧ x.2.testBit i = false := by
      intro i hi
      have := Nat.testBit_lt_two_pow (Nat.lt_of_lt_of_le hlt (Nat.pow_le_pow_right (by omega) hi))
      rw [lor_bit, Bool.or_eq_false_iff] at this
      exact this
    have hs : bitI n 63 = false := by rw [hx.bits 63 (by omega) (hb 63 (by omega)).1]; exact (hb 63 (by omega)).2
    refine ⟨?_, ?_, ?_, ?_⟩
    · exact Nat.lt_of_le_of_lt (Nat.shiftRight_le _ _) hx.m
    · exact Nat.lt_of_le_of_lt (Nat.shiftRight_le _ _) hx.v
    · intro i h; simp only [shr_bit] at h ⊢; exact hx.ap _ h
    · intro i hi h
      simp only [shr_bit] at h ⊢
      rw [bitI_shr]
      by_cases hi' : c + i < 64
      · exact hx.bits _ hi' h
      · rw [(hb (c + i) (by omega)).2, bitI_high n 63 (c + i) h1 h2 (by omega)]
        rw [bitI_high n 63 63 h1 h2 (by omega)] at hs
        exact hs
  · refine ⟨?_, ?_, ?_, ?_⟩
    · apply lt64_of_bits
      intro i hi
      have : ¬ i < 64 := by omega
      simp only [lor_bit, shr_bit, kTop_bit, bit_far hx.m (show 64 ≤ c + i by omega), this]; simp
    · apply lt64_of_bits
      intro i hi
      have : ¬ i < 64 := by omega
      simp only [nxor_bit, lor_bit, shr_bit, kTop_bit, bit_far hx.v (show 64 ≤ c + i by omega), this]; simp
    · intro i h
      simp only [nxor_bit, lor_bit, shr_bit] at h ⊢
      have := hx.ap (c + i)
      cases h1 : x.1.testBit (c + i) <;> cases h2 : x.2.testBit (c + i) <;> cases h3 : (kTop (64 - c)).testBit i <;> simp_all
    · intro i hi h
      simp only [nxor_bit, lor_bit, shr_bit, kTop_bit, hi, decide_true, Bool.and_true] at h ⊢
      rw [Bool.or_eq_false_iff] at h
      have h2 := of_decide_eq_false h.2
      rw [bitI_shr, hx.bits _ (by omega) h.1]
      simp [h2]

theorem Know.num (n : Int) : Know (0, (n % 18446744073709551616).toNat) n := by
  have h1 : (18446744073709551616 : Int) = 2 ^ 64 := by decide
  have h0 := Int.emod_nonneg n (show (18446744073709551616 : Int) ≠ 0 by decide)
  have h2 := Int.emod_lt_of_pos n (show (0 : Int) < 18446744073709551616 by decide)
  refine ⟨by show (0 : Nat) < 2 ^ 64; decide, ?_, ?_, ?_⟩
  · show (n % 18446744073709551616).toNat < 2 ^ 64
    have : (2 : Nat) ^ 64 = 18446744073709551616 := by decide
    omega
  · intro i _; exact Nat.zero_testBit i
  · intro i hi _
    show bitI n i = ((n % 18446744073709551616).toNat).testBit i
    rw [← bitI_nat, Int.toNat_of_nonneg h0, h1, bitI_emod _ _ _ hi]

theorem i64_bits : IntKind.i64.bits = 64 := rfl

theorem kPow_eq {n c : Nat} (h : kPow n = some c) : n = 2 ^ c ∧ c < 64 := by
  unfold kPow at h
  split at h
  · rename_i hh
    simp only [Bool.and_eq_true] at hh
    simp only [Option.some.injEq] at h; subst h
    exact ⟨(Nat.eq_of_beq_eq_true hh.1).symm, blt_lt hh.2⟩
  · cases h

theorem tmod_le_self {a b : Int} (h : 0 ≤ a) : a.tmod b ≤ a := by
  obtain ⟨n, rfl⟩ := Int.eq_ofNat_of_zero_le h
  rcases Int.lt_or_le b 0 with hb | hb
  · obtain ⟨m, hm⟩ := Int.eq_ofNat_of_zero_le (show 0 ≤ -b by omega)
    have : b = -(m : Int) := by omega
    rw [this, Int.tmod_neg, Int.tmod_eq_emod_of_nonneg (by omega)]
    exact_mod_cast Nat.mod_le n m
  · obtain ⟨m, rfl⟩ := Int.eq_ofNat_of_zero_le hb
    rw [Int.tmod_eq_emod_of_nonneg (by omega)]
    exact_mod_cast Nat.mod_le n m

theorem isIn_ok {k : IntKind} (h : isIn k = true) (n : Int) : -2 ^ 63 ≤ k.wrap n ∧ k.wrap n < 2 ^ 63 := by
  cases k <;> first | (simp [isIn] at h; done) | skip
  · exact wrap_has .i64 n
  · have : 0 ≤ IntKind.u8.wrap n ∧ IntKind.u8.wrap n < 2 ^ 8 := wrap_has .u8 n
    omega
  · have : 0 ≤ IntKind.u32.wrap n ∧ IntKind.u32.wrap n < 2 ^ 32 := wrap_has .u32 n
    omega

theorem in64_ok (ρ : Env) : ∀ t : Tm, in64 t = true → t.den ρ = .int (t.den ρ).asInt ∧ -2 ^ 63 ≤ (t.den ρ).asInt ∧ (t.den ρ).asInt < 2 ^ 63 := by
  intro t
  induction t with
  | num n => intro h; simp only [in64, Bool.and_eq_true, decide_eq_true_eq] at h; exact ⟨rfl, h.1, h.2⟩
  | op1 o a ih =>
    intro h
    cases o with
    | conv k => exact ⟨rfl, isIn_ok h _⟩
    | _ => simp [in64] at h
  | op2 o a b iha ihb =>
    intro h
    cases o with
    | and k => exact ⟨rfl, isIn_ok h _⟩
    | or k => exact ⟨rfl, isIn_ok h _⟩
    | xor k => exact ⟨rfl, isIn_ok h _⟩
    | add k => exact ⟨rfl, isIn_ok h _⟩
    | sub k => exact ⟨rfl, isIn_ok h _⟩
    | mul k => exact ⟨rfl, isIn_ok h _⟩
    | shl k => exact ⟨rfl, isIn_ok h _⟩
    | quo k => exact ⟨rfl, isIn_ok h _⟩
    | shr k =>
      obtain ⟨_, h1, h2⟩ := iha (by simpa [in64] using h)
      refine ⟨rfl, ?_⟩
      simp only [Tm.den, Op2.ev, shrOp, Sc.asInt_int]
      generalize hm : min (b.den ρ).asInt.toNat k.bits = m
      have hp : (0 : Int) < 2 ^ m := Int.pow_pos (by omega)
      rw [Int.fdiv_eq_ediv_of_nonneg _ (Int.le_of_lt hp)]
      have : (2 : Int) ^ 63 * 1 ≤ 2 ^ 63 * 2 ^ m := Int.mul_le_mul_of_nonneg_left (by omega) (by decide)
      constructor
      · rw [Int.le_ediv_iff_mul_le hp]
        have e : (-2 ^ 63 : Int) * 2 ^ m = -(2 ^ 63 * 2 ^ m) := Int.neg_mul _ _
        omega
      · apply Int.ediv_lt_of_lt_mul hp
        omega
    | rem =>
      obtain ⟨_, h1, h2⟩ := iha (by simpa [in64] using h)
      refine ⟨rfl, ?_⟩
      simp only [Tm.den, Op2.ev, Sc.asInt_int]
      rcases Int.lt_or_le (a.den ρ).asInt 0 with hn | hn
      · have e := Int.neg_tmod (-(a.den ρ).asInt) (b.den ρ).asInt
        rw [Int.neg_neg] at e
        have k1 := Int.tmod_nonneg (a := -(a.den ρ).asInt) (b.den ρ).asInt (by omega)
        have k2 : (-(a.den ρ).asInt).tmod (b.den ρ).asInt ≤ -(a.den ρ).asInt := tmod_le_self (by omega)
        omega
      · have k1 := Int.tmod_nonneg (a := (a.den ρ).asInt) (b.den ρ).asInt hn
        have k2 : ((a.den ρ).asInt).tmod (b.den ρ).asInt ≤ (a.den ρ).asInt := tmod_le_self hn
        omega
    | _ => simp [in64] at h
  | ite c a b ihc iha ihb =>
    intro h
    simp only [in64, Bool.and_eq_true] at h
    simp only [Tm.den]
    cases (c.den ρ).asBool
    · exact ihb h.2
    · exact iha h.1
  | _ => intro h; simp [in64] at h

theorem Know.low {x : Nat × Nat} {n r : Int} (b : Nat) (hx : Know x n) (hr : ∀ i, i < b → bitI r i = bitI n i) (h0 : 0 ≤ r) (h1 : r < 2 ^ b) : Know (kLow b x) r := by
  have mb : ∀ a i : Nat, (Nat.mod a (Nat.pow 2 b)).testBit i = (decide (i < b) && a.testBit i) := fun a i => Nat.testBit_mod_two_pow a b i
  refine ⟨?_, ?_, ?_, ?_⟩
  · exact Nat.lt_of_le_of_lt (Nat.mod_le _ _) hx.m
  · exact Nat.lt_of_le_of_lt (Nat.mod_le _ _) hx.v
  · intro i h
    simp only [kLow, mb, Bool.and_eq_true] at h
    simp only [kLow, mb, hx.ap _ h.2, Bool.and_false]
  · intro i hi h
    simp only [kLow, mb] at h ⊢
    by_cases hb : i < b
    · rw [decide_eq_true hb, Bool.true_and] at h ⊢
      rw [hr i hb]; exact hx.bits i hi h
    · rw [decide_eq_false hb, Bool.false_and, bitI_high r b i (by have : (0 : Int) < 2 ^ b := Int.pow_pos (by omega)
                                                                  omega) h1 (by omega)]
      exact decide_eq_false (by omega)

theorem Know.xor {x y : Nat × Nat} {n p r : Int} (hx : Know x n) (hy : Know y p) (hr : ∀ i, i < 64 → bitI r i = (bitI n i ^^ bitI p i)) : Know (kXor x y) r := by
  refine ⟨?_, ?_, ?_, ?_⟩
  · apply lt64_of_bits
    intro i hi
    simp only [kXor, lor_bit, bit_far hx.m hi, bit_far hy.m hi]; rfl
  · apply lt64_of_bits
    intro i hi
    simp only [kXor, nxor_bit, lor_bit, bit_far hx.m hi, bit_far hx.v hi, bit_far hy.m hi, bit_far hy.v hi]; rfl
  · intro i h
    simp only [kXor, nxor_bit, lor_bit] at h ⊢
    cases h1 : x.1.testBit i <;> cases h2 : x.2.testBit i <;> cases h3 : y.1.testBit i <;> cases h4 : y.2.testBit i <;> simp_all
  · intro i hi h
    have a := hx.bits i hi
    have b := hy.bits i hi
    simp only [kXor, nxor_bit, lor_bit] at h ⊢
    rw [hr i hi]
    cases h1 : x.1.testBit i <;> cases h2 : x.2.testBit i <;> cases h3 : y.1.testBit i <;> cases h4 : y.2.testBit i <;> simp_all

/-- Bits below so many are what is asked; the rest does not matter. -/
theorem Know.cut {x : Nat × Nat} {n : Int} (hx : Know x n) : Know x (IntKind.i64.wrap n) :=
  ⟨hx.m, hx.v, hx.ap, fun i hi h => by rw [bitI_wrap .i64 n i hi]; exact hx.bits i hi h⟩

theorem u32_has (n : Int) : 0 ≤ IntKind.u32.wrap n ∧ IntKind.u32.wrap n < 2 ^ 32 := wrap_has .u32 n
theorem u8_has (n : Int) : 0 ≤ IntKind.u8.wrap n ∧ IntKind.u8.wrap n < 2 ^ 8 := wrap_has .u8 n

/-- A number that is not below 0, by its bits. -/
theorem Know.pos {x : Nat × Nat} {n : Int} (hx : Know x n) (h : Nat.lor x.1 x.2 < 2 ^ 63) (h1 : -2 ^ 63 ≤ n) (h2 : n < 2 ^ 63) : 0 ≤ n := by
  have hb := Nat.testBit_lt_two_pow h
  rw [lor_bit, Bool.or_eq_false_iff] at hb
  have hs : bitI n 63 = false := by rw [hx.bits 63 (by omega) hb.1]; exact hb.2
  rw [bitI_high n 63 63 h1 h2 (by omega)] at hs
  have := of_decide_eq_false hs
  omega

theorem Know.bounds {x : Nat × Nat} {n : Int} (hx : Know x n) (h : Nat.lor x.1 x.2 < 2 ^ 63) (h1 : -2 ^ 63 ≤ n) (h2 : n < 2 ^ 63) : (x.2 : Int) ≤ n ∧ n ≤ ((Nat.lor x.1 x.2 : Nat) : Int) := by
  have hb : ∀ i, 63 ≤ i → x.1.testBit i = false ∧ x.2.testBit i = false := by
    intro i hi
    have := Nat.testBit_lt_two_pow (Nat.lt_of_lt_of_le h (Nat.pow_le_pow_right (by omega) hi))
    rw [lor_bit, Bool.or_eq_false_iff] at this
    exact this
  have hs : bitI n 63 = false := by rw [hx.bits 63 (by omega) (hb 63 (by omega)).1]; exact (hb 63 (by omega)).2
  rw [bitI_high n 63 63 h1 h2 (by omega)] at hs
  have hn : 0 ≤ n := by have := of_decide_eq_false hs; omega
  obtain ⟨k, rfl⟩ := Int.eq_ofNat_of_zero_le hn
  have hk : k < 2 ^ 63 := by omega
  have hbits : ∀ i, x.1.testBit i = false → k.testBit i = x.2.testBit i := by
    intro i hi
    by_cases h64 : i < 64
    · rw [← bitI_nat]; exact hx.bits i h64 hi
    · rw [Nat.testBit_lt_two_pow (Nat.lt_of_lt_of_le hk (Nat.pow_le_pow_right (by omega) (by omega))), (hb i (by omega)).2]
  have e1 : Nat.land x.2 k = x.2 := by
    apply Nat.eq_of_testBit_eq
    intro i
    rw [land_bit]
    cases h' : x.2.testBit i
    · rfl
    · rw [hbits i (hx.ap i h'), h']; rfl
  have e2 : Nat.land k (Nat.lor x.1 x.2) = k := by
    apply Nat.eq_of_testBit_eq
    intro i
    rw [land_bit, lor_bit]
    cases h' : x.1.testBit i
    · rw [hbits i h']; simp
    · simp
  have l1 : x.2 ≤ k := by rw [← e1]; exact Nat.and_le_right
  have l2 : k ≤ Nat.lor x.1 x.2 := by rw [← e2]; exact Nat.and_le_right
  exact ⟨by omega, by omega⟩

theorem kw_ok (ρ : Env) : ∀ (d : Nat) (t : Tm), Know (kw d t) (t.den ρ).asInt := by
  intro d
  induction d with
  | zero => intro t; unfold kw; exact Know.all _
  | succ d ih =>
    intro t
    unfold kw
    split
    · exact Know.num _
    · rename_i a
      have := ih a
      refine ⟨this.m, this.v, this.ap, fun i hi h => ?_⟩
      rw [← this.bits i hi h]
      exact bitI_wrap .i64 _ i hi
    · rename_i a b
      exact (ih a).and (ih b) fun i hi => bitsOp_bit .i64 _ (· && ·) (by intro a b i _; simp) _ _ i hi
    · rename_i a b
      exact (ih a).or (ih b) fun i hi => bitsOp_bit .i64 _ (· || ·) (by intro a b i _; simp) _ _ i hi
    · rename_i a b
      simp only
      split
      · rename_i hd
        have hd := Nat.eq_of_beq_eq_true hd
        have ha := ih a
        have hb := ih b
        refine ha.or hb fun i hi => ?_
        have dis : ∀ i, i < 64 → (bitI (a.den ρ).asInt i && bitI (b.den ρ).asInt i) = false := by
          intro i hi
          have h := congrArg (fun n => n.testBit i) hd
          simp only [land_bit, lor_bit, Nat.zero_testBit] at h
          have h1 := ha.bits i hi
          have h2 := hb.bits i hi
          have h3 := ha.ap i
          have h4 := hb.ap i
          cases k1 : (kw d a).1.testBit i <;> cases k2 : (kw d a).2.testBit i <;> cases k3 : (kw d b).1.testBit i <;> cases k4 : (kw d b).2.testBit i <;> simp_all
        have e : BitVec.ofInt 64 ((a.den ρ).asInt + (b.den ρ).asInt) = BitVec.ofInt 64 (a.den ρ).asInt ||| BitVec.ofInt 64 (b.den ρ).asInt := by
          rw [BitVec.ofInt_add]
          apply BitVec.add_eq_or_of_and_eq_zero
          apply BitVec.eq_of_getLsbD_eq
          intro i hi
          have := dis i hi
          rw [← ofInt_bit 64 _ i hi, ← ofInt_bit 64 _ i hi] at this
          simpa [BitVec.getLsbD] using this
        have h5 := bitI_wrap .i64 ((a.den ρ).asInt + (b.den ρ).asInt) i hi
        show bitI (IntKind.i64.wrap _) i = _
        rw [h5, ← ofInt_bit 64 _ i hi, e, ← ofInt_bit 64 (a.den ρ).asInt i hi, ← ofInt_bit 64 (b.den ρ).asInt i hi]
        simp
      · exact Know.all _
    · rename_i a c
      split
      · rename_i hc
        have hc : c < 64 := blt_lt hc
        refine (ih a).shl c fun i hi => ?_
        show bitI (IntKind.i64.wrap _) i = _
        rw [bitI_wrap .i64 _ i hi]
        have : min (Int.ofNat c).toNat IntKind.i64.bits = c := by rw [i64_bits]; show min c 64 = c; omega
        show bitI (_ * 2 ^ (min (Int.ofNat c).toNat IntKind.i64.bits)) i = _
        rw [this, bitI_shl]
      · exact Know.all _
    · rename_i a c
      split
      · rename_i c' hc
        obtain ⟨rfl, hc⟩ := kPow_eq hc
        refine (ih a).shl c' fun i hi => ?_
        show bitI (IntKind.i64.wrap _) i = _
        rw [bitI_wrap .i64 _ i hi]
        have : (Int.ofNat (2 ^ c')) = (2 : Int) ^ c' := by simp
        show bitI (_ * Int.ofNat (2 ^ c')) i = _
        rw [this, bitI_shl]
      · exact Know.all _
    · rename_i a c
      split
      · rename_i hc
        have hc : c < 64 := blt_lt hc
        have := (ih a).shr (z := in64 a) c hc (fun h => (in64_ok ρ a h).2)
        have e : (Tm.op2 (.shr .i64) a (.num (.ofNat c))).den ρ = .int ((a.den ρ).asInt / 2 ^ c) := by
          have : min (Int.ofNat c).toNat IntKind.i64.bits = c := by rw [i64_bits]; show min c 64 = c; omega
          show Sc.int ((a.den ρ).asInt.fdiv (2 ^ (min (Int.ofNat c).toNat IntKind.i64.bits))) = _
          rw [this, Int.fdiv_eq_ediv_of_nonneg _ (Int.le_of_lt (Int.pow_pos (by omega)))]
        rw [e]
        exact this
      · exact Know.all _
    · rename_i c a b
      have := Know.ite (c.den ρ).asBool (ih a) (ih b)
      simp only [Tm.den]
      cases h : (c.den ρ).asBool <;> rw [h] at this <;> exact this
    · rename_i a
      exact (ih a).low 32 (fun i hi => bitI_wrap .u32 _ i hi) (u32_has _).1 (u32_has _).2
    · rename_i a
      exact (ih a).low 8 (fun i hi => bitI_wrap .u8 _ i hi) (u8_has _).1 (u8_has _).2
    · rename_i a b
      have h64 : Know (kAnd (kw d a) (kw d b)) (bitsOp .i64 (fun a b => a &&& b) (a.den ρ).asInt (b.den ρ).asInt) := (ih a).and (ih b) fun i hi => bitsOp_bit .i64 _ (· && ·) (by intro a b i _; simp) _ _ i hi
      refine h64.low 32 (fun i hi => ?_) (u32_has _).1 (u32_has _).2
      rw [bitsOp_bit .i64 _ (· && ·) (by intro a b i _; simp) _ _ i (show i < 64 by omega)]
      exact bitsOp_bit .u32 _ (· && ·) (by intro a b i _; simp) _ _ i hi
    · rename_i a b
      have h64 : Know (kOr (kw d a) (kw d b)) (bitsOp .i64 (fun a b => a ||| b) (a.den ρ).asInt (b.den ρ).asInt) := (ih a).or (ih b) fun i hi => bitsOp_bit .i64 _ (· || ·) (by intro a b i _; simp) _ _ i hi
      refine h64.low 32 (fun i hi => ?_) (u32_has _).1 (u32_has _).2
      rw [bitsOp_bit .i64 _ (· || ·) (by intro a b i _; simp) _ _ i (show i < 64 by omega)]
      exact bitsOp_bit .u32 _ (· || ·) (by intro a b i _; simp) _ _ i hi
    · rename_i a b
      have h64 : Know (kXor (kw d a) (kw d b)) (bitsOp .i64 (fun a b => a ^^^ b) (a.den ρ).asInt (b.den ρ).asInt) := (ih a).xor (ih b) fun i hi => bitsOp_bit .i64 _ (· ^^ ·) (by intro a b i _; simp) _ _ i hi
      refine h64.low 32 (fun i hi => ?_) (u32_has _).1 (u32_has _).2
      rw [bitsOp_bit .i64 _ (· ^^ ·) (by intro a b i _; simp) _ _ i (show i < 64 by omega)]
      exact bitsOp_bit .u32 _ (· ^^ ·) (by intro a b i _; simp) _ _ i hi
    · rename_i a c
      split
      · rename_i hc
        have hc : c < 32 := blt_lt hc
        have h64 : Know (kShl (kw d a) c) (IntKind.i64.wrap ((a.den ρ).asInt * 2 ^ c)) := (ih a).shl c fun i hi => by rw [bitI_wrap .i64 _ i hi, bitI_shl]
        have e : (Tm.op2 (.shl .u32) a (.num (.ofNat c))).den ρ = .int (IntKind.u32.wrap ((a.den ρ).asInt * 2 ^ c)) := by
          have : min (Int.ofNat c).toNat IntKind.u32.bits = c := by show min c 32 = c; omega
          show Sc.int (IntKind.u32.wrap ((a.den ρ).asInt * 2 ^ (min (Int.ofNat c).toNat IntKind.u32.bits))) = _
          rw [this]
        rw [e]
        refine h64.low 32 (fun i hi => ?_) (u32_has _).1 (u32_has _).2
        rw [bitI_wrap .i64 _ i (show i < 64 by omega)]
        exact bitI_wrap .u32 _ i hi
      · exact Know.all _
    · rename_i a c
      split
      · rename_i hc
        have hc : c < 32 := blt_lt hc
        have := (ih a).shr (z := in64 a) c (by omega) (fun h => (in64_ok ρ a h).2)
        have e : (Tm.op2 (.shr .u32) a (.num (.ofNat c))).den ρ = .int ((a.den ρ).asInt / 2 ^ c) := by
          have : min (Int.ofNat c).toNat IntKind.u32.bits = c := by show min c 32 = c; omega
          show Sc.int ((a.den ρ).asInt.fdiv (2 ^ (min (Int.ofNat c).toNat IntKind.u32.bits))) = _
          rw [this, Int.fdiv_eq_ediv_of_nonneg _ (Int.le_of_lt (Int.pow_pos (by omega)))]
        rw [e]
        exact this
      · exact Know.all _
    · rename_i a c
      split
      · rename_i c' hc0 hi
        obtain ⟨rfl, hc⟩ := kPow_eq hc0
        clear hc0
        simp only
        split
        · rename_i hl
          obtain ⟨_, h1, h2⟩ := in64_ok ρ a hi
          have h0 := (ih a).pos (blt_lt hl) h1 h2
          have := (ih a).shr (z := true) c' hc (fun _ => ⟨h1, h2⟩)
          have hp : (0 : Int) < 2 ^ c' := Int.pow_pos (by omega)
          have e : (Tm.op2 (.quo .i64) a (.num (.ofNat (2 ^ c')))).den ρ = .int ((a.den ρ).asInt / 2 ^ c') := by
            show Sc.int (IntKind.i64.wrap ((a.den ρ).asInt.tdiv (Int.ofNat (2 ^ c')))) = _
            have e2 : Int.ofNat (2 ^ c') = (2 : Int) ^ c' := by simp
            rw [e2, Int.tdiv_eq_ediv_of_nonneg h0]
            congr 1
            have q1 : 0 ≤ (a.den ρ).asInt / 2 ^ c' := Int.ediv_nonneg h0 (Int.le_of_lt hp)
            have q2 : (a.den ρ).asInt / 2 ^ c' ≤ (a.den ρ).asInt := Int.ediv_le_self _ h0
            exact wrap_eq (k := .i64) ⟨by show -2 ^ 63 ≤ _; omega, by show _ < 2 ^ 63; omega⟩ (fun _ _ => rfl)
          rw [e]
          exact this
        · exact Know.all _
      · exact Know.all _
    · rename_i a c
      split
      · rename_i c' hc0 hi
        obtain ⟨rfl, hc⟩ := kPow_eq hc0
        clear hc0
        simp only
        split
        · rename_i hl
          obtain ⟨_, h1, h2⟩ := in64_ok ρ a hi
          have hl' : Nat.lor (kw d a).1 (kw d a).2 < 4294967296 := blt_lt hl
          have h0 := (ih a).pos (by omega) h1 h2
          have hb := ((ih a).bounds (by omega) h1 h2).2
          have := (ih a).shr (z := true) c' hc (fun _ => ⟨h1, h2⟩)
          have hp : (0 : Int) < 2 ^ c' := Int.pow_pos (by omega)
          have e : (Tm.op2 (.quo .u32) a (.num (.ofNat (2 ^ c')))).den ρ = .int ((a.den ρ).asInt / 2 ^ c') := by
            show Sc.int (IntKind.u32.wrap ((a.den ρ).asInt.tdiv (Int.ofNat (2 ^ c')))) = _
            have e2 : Int.ofNat (2 ^ c') = (2 : Int) ^ c' := by simp
            rw [e2, Int.tdiv_eq_ediv_of_nonneg h0]
            congr 1
            have q1 : 0 ≤ (a.den ρ).asInt / 2 ^ c' := Int.ediv_nonneg h0 (Int.le_of_lt hp)
            have q2 : (a.den ρ).asInt / 2 ^ c' ≤ (a.den ρ).asInt := Int.ediv_le_self _ h0
            exact wrap_eq (k := .u32) ⟨by omega, by show _ < 2 ^ 32; omega⟩ (fun _ _ => rfl)
          rw [e]
          exact this
        · exact Know.all _
      · exact Know.all _
    · rename_i a c
      split
      · rename_i c' hc0 hi
        obtain ⟨rfl, hc⟩ := kPow_eq hc0
        clear hc0
        simp only
        split
        · rename_i hl
          obtain ⟨_, h1, h2⟩ := in64_ok ρ a hi
          have h0 := (ih a).pos (blt_lt hl) h1 h2
          have hp : (0 : Int) < 2 ^ c' := Int.pow_pos (by omega)
          have e : (Tm.op2 .rem a (.num (.ofNat (2 ^ c')))).den ρ = .int ((a.den ρ).asInt % 2 ^ c') := by
            show Sc.int ((a.den ρ).asInt.tmod (Int.ofNat (2 ^ c'))) = _
            have e2 : Int.ofNat (2 ^ c') = (2 : Int) ^ c' := by simp
            rw [e2, Int.tmod_eq_emod_of_nonneg h0]
          rw [e]
          exact (ih a).low c' (fun i hi => bitI_emod _ _ _ hi) (Int.emod_nonneg _ (Int.ne_of_gt hp)) (Int.emod_lt_of_pos _ hp)
        · exact Know.all _
      · exact Know.all _
    · exact Know.all _

theorem bnd_ok (ρ : Env) {t : Tm} {x : Int × Int} (h : bnd t = some x) : x.1 ≤ (t.den ρ).asInt ∧ (t.den ρ).asInt ≤ x.2 := by
  unfold bnd at h
  split at h
  · simp only [Option.some.injEq] at h; subst h; exact ⟨Int.le_refl _, Int.le_refl _⟩
  · split at h
    · rename_i hi
      simp only at h
      split at h
      · rename_i hl
        simp only [Option.some.injEq] at h; subst h
        obtain ⟨_, h1, h2⟩ := in64_ok ρ _ hi
        exact (kw_ok ρ 8 _).bounds (blt_lt hl) h1 h2
      · cases h
    · cases h

theorem foldN_den (ρ : Env) (t : Tm) : (foldN t).den ρ = t.den ρ := by
  unfold foldN
  split
  · rename_i hi
    split
    · rename_i v hv
      split
      · rename_i hl
        obtain ⟨h0, h1, h2⟩ := in64_ok ρ t hi
        have K := kw_ok ρ 8 t
        rw [hv] at K
        have hl' : v < 2 ^ 63 := blt_lt hl
        have e : Nat.lor 0 v = v := Nat.zero_or v
        have hb := K.bounds (by show Nat.lor 0 v < 2 ^ 63; rw [e]; exact hl') h1 h2
        have hb2 : ((v : Nat) : Int) ≤ (t.den ρ).asInt ∧ (t.den ρ).asInt ≤ ((Nat.lor 0 v : Nat) : Int) := hb
        rw [e] at hb2
        rw [h0]
        show Sc.int (Int.ofNat v) = _
        congr 1
        have : Int.ofNat v = (v : Int) := rfl
        omega
      · rfl
    · rfl
  · rfl

theorem and_and (x : Int) (c d : Nat) : bitsOp .i64 (fun a b => a &&& b) (bitsOp .i64 (fun a b => a &&& b) x (Int.ofNat c)) (Int.ofNat d) = bitsOp .i64 (fun a b => a &&& b) x (Int.ofNat (Nat.land c d)) := by
  refine eq_of_has (k := .i64) (bitsOp_has _ _ _ _) (bitsOp_has _ _ _ _) fun i hi => ?_
  have hb := fun x y => bitsOp_bit .i64 (fun a b => a &&& b) (· && ·) (by intro a b i _; simp) x y i hi
  rw [hb, hb, hb]
  have n1 : ∀ c : Nat, bitI (Int.ofNat c) i = c.testBit i := fun c => bitI_nat c i
  rw [n1, n1, n1, land_bit, Bool.and_assoc]

theorem fold2_den (ρ : Env) (o : Op2) (a b : Tm) : (fold2 o a b).den ρ = o.ev (a.den ρ) (b.den ρ) := by
  unfold fold2
  split
  · simp only
    split
    · rfl
    · rename_i h
      have ha := kw_ok ρ 8 a
      have hb := kw_ok ρ 8 b
      show Sc.bool false = Sc.bool ((a.den ρ).asInt == (b.den ρ).asInt)
      congr 1
      symm
      rw [beq_eq_false_iff_ne]
      intro e
      have : Nat.lor (Nat.xor (kw 8 a).2 (kw 8 b).2) (Nat.lor (kw 8 a).1 (kw 8 b).1) = Nat.lor (kw 8 a).1 (kw 8 b).1 := by
        apply Nat.eq_of_testBit_eq
        intro i
        simp only [lor_bit, nxor_bit]
        cases h1 : (kw 8 a).1.testBit i
        · cases h2 : (kw 8 b).1.testBit i
          · by_cases hi : i < 64
            · rw [← ha.bits i hi h1, ← hb.bits i hi h2, e]; simp
            · rw [bit_far ha.v (by omega), bit_far hb.v (by omega)]; rfl
          · simp
        · simp
      rw [this] at h
      simp at h
  · split
    · rename_i x y hx hy
      have h1 := bnd_ok ρ hx
      have h2 := bnd_ok ρ hy
      split
      · rename_i h
        have h := of_decide_eq_true h
        show Sc.bool true = Sc.bool (decide ((a.den ρ).asInt ≤ (b.den ρ).asInt))
        rw [decide_eq_true (by omega)]
      · split
        · rename_i h
          have h := of_decide_eq_true h
          show Sc.bool false = Sc.bool (decide ((a.den ρ).asInt ≤ (b.den ρ).asInt))
          rw [decide_eq_false (by omega)]
        · rfl
    · rfl
  · split
    · rename_i x y hx hy
      have h1 := bnd_ok ρ hx
      have h2 := bnd_ok ρ hy
      split
      · rename_i h
        have h := of_decide_eq_true h
        show Sc.bool true = Sc.bool (decide ((a.den ρ).asInt < (b.den ρ).asInt))
        rw [decide_eq_true (by omega)]
      · split
        · rename_i h
          have h := of_decide_eq_true h
          show Sc.bool false = Sc.bool (decide ((a.den ρ).asInt < (b.den ρ).asInt))
          rw [decide_eq_false (by omega)]
        · rfl
    · rfl
  · split
    · rename_i x c d
      rw [foldN_den]
      show Sc.int _ = Sc.int _
      congr 1
      exact (and_and _ c d).symm
    · rw [foldN_den]; rfl
  · rw [foldN_den]; rfl
  · rw [foldN_den]; rfl
  · rw [foldN_den]; rfl
  · split
    · rename_i hi
      obtain ⟨h0, _, _⟩ := in64_ok ρ a hi
      rw [h0]
      show Sc.int _ = Sc.int ((a.den ρ).asInt.fdiv (2 ^ (min 0 64)))
      congr 1
      simp
    · rw [foldN_den]; rfl
  · split
    · rename_i ht
      rw [tru_ok ρ a ht]
      simp [Op2.ev, Tm.den]
    · simp [Op2.ev, Tm.den, Op1.ev]
    · rw [foldN_den]; rfl
  · rw [foldN_den]; rfl

end
end Go.Sx
