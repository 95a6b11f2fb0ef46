/- For the seat: texts joined: SxKb, SxVal, SxExec, SxSound4, SxSound7, SxSound9, SxExt, SxFlat, SxPx, SxPxC, SxPxF, SxRg, SxOnes. -/
import Derived.WalkKit
import Derived.Laws.StructEq
import Derived.ChangeKeysEq
import Derived.Defers
import Derived.Lib.Builder
import Derived.Laws.BytesString
import Derived.Laws.CopyRow
import Derived.Laws.AppendOwn
import Derived.Laws.MakeOwn
import Derived.Laws.NewFold
import Derived.Deep.AppendSrc
import Derived.MapKept
import Derived.Lib.ConvBytes
import Derived.Lib.UnsafeStr
import Derived.Orders
import Derived.Scope
import Derived.LoopN
import Derived.Still
import Derived.ScopeJumps
import Derived.Laws.Externs
import Derived.KernelRfl
import Derived.RowKit3
import Derived.Lib.Join
import Derived.Lib.SmallJoins
set_option maxRecDepth 100000
namespace Go.Sx
noncomputable section
def bitsOp (k : IntKind) (f : BitVec k.bits → BitVec k.bits → BitVec k.bits) (x y : Int) : Int :=
  k.wrap (f (BitVec.ofInt k.bits x) (BitVec.ofInt k.bits y)).toNat
end
end Go.Sx
namespace Go.Sx
noncomputable section
def bitI (n : Int) (i : Nat) : Bool := decide (n / 2 ^ i % 2 = 1)
theorem bitI_nat (n i : Nat) : bitI n i = n.testBit i := by
  unfold bitI
  rw [Nat.testBit_eq_decide_div_mod_eq]
  have h : ((n : Int) / 2 ^ i % 2) = ((n / 2 ^ i % 2 : Nat) : Int) := by simp
  rw [h]
  exact decide_eq_decide.2 (by omega)
theorem bitI_sub_mul (n q : Int) (w i : Nat) (h : i < w) : bitI (n - 2 ^ w * q) i = bitI n i := by
  unfold bitI
  obtain ⟨d, rfl⟩ : ∃ d, w = i + 1 + d := ⟨w - i - 1, by omega⟩
  have e : n - 2 ^ (i + 1 + d) * q = n + 2 ^ i * (2 * (-(2 ^ d * q))) := by
    rw [Int.pow_add, Int.pow_succ]
    have : (2 : Int) ^ i * 2 * 2 ^ d * q = 2 ^ i * (2 * (2 ^ d * q)) := by simp only [Int.mul_assoc]
    rw [this]
    have : 2 * (-(2 ^ d * q : Int)) = -(2 * (2 ^ d * q)) := by omega
    rw [this, Int.mul_neg]
    omega
  rw [e, Int.add_mul_ediv_left _ _ (by exact Int.ne_of_gt (Int.pow_pos (by omega)))]
  have : (n / 2 ^ i + 2 * -(2 ^ d * q)) % 2 = n / 2 ^ i % 2 := by omega
  rw [this]
theorem bitI_emod (n : Int) (w i : Nat) (h : i < w) : bitI (n % 2 ^ w) i = bitI n i := by
  rw [Int.emod_def]; exact bitI_sub_mul n _ w i h
theorem bitI_wrap (k : IntKind) (n : Int) (i : Nat) (h : i < k.bits) : bitI (k.wrap n) i = bitI n i := by
  unfold IntKind.wrap
  simp only
  split
  · have := bitI_sub_mul (n % 2 ^ k.bits) 1 k.bits i h
    rw [Int.mul_one] at this
    rw [this]; exact bitI_emod _ _ _ h
  · exact bitI_emod _ _ _ h
theorem bitI_high (n : Int) (k i : Nat) (h1 : -2 ^ k ≤ n) (h2 : n < 2 ^ k) (h : k ≤ i) : bitI n i = decide (n < 0) := by
  unfold bitI
  have hk : (2 : Int) ^ k ≤ 2 ^ i := by
    exact_mod_cast Nat.pow_le_pow_right (by omega) h
  have hp : (0 : Int) < 2 ^ i := Int.pow_pos (by omega)
  by_cases hn : n < 0
  · have e : n / 2 ^ i = -1 := by
      have h3 : n / 2 ^ i < 0 := Int.ediv_neg_of_neg_of_pos hn hp
      have h4 : -1 ≤ n / 2 ^ i := by
        rw [Int.le_ediv_iff_mul_le hp]; omega
      omega
    rw [e]; simp [hn]
  · have e : n / 2 ^ i = 0 := Int.ediv_eq_zero_of_lt (by omega) (by omega)
    rw [e]; simp [hn]
theorem eq_of_bits (w : Nat) (x y : Int) (hx : 0 ≤ x) (hx' : x < 2 ^ w) (hy : 0 ≤ y) (hy' : y < 2 ^ w) (h : ∀ i, i < w → bitI x i = bitI y i) : x = y := by
  obtain ⟨a, rfl⟩ := Int.eq_ofNat_of_zero_le hx
  obtain ⟨b, rfl⟩ := Int.eq_ofNat_of_zero_le hy
  have ha : a < 2 ^ w := by exact_mod_cast hx'
  have hb : b < 2 ^ w := by exact_mod_cast hy'
  congr 1
  apply Nat.eq_of_testBit_eq
  intro i
  by_cases hi : i < w
  · rw [← bitI_nat, ← bitI_nat]; exact h i hi
  · rw [Nat.testBit_lt_two_pow (Nat.lt_of_lt_of_le ha (Nat.pow_le_pow_right (by omega) (by omega))), Nat.testBit_lt_two_pow (Nat.lt_of_lt_of_le hb (Nat.pow_le_pow_right (by omega) (by omega)))]
theorem mod_of_bits (w : Nat) (x y : Int) (h : ∀ i, i < w → bitI x i = bitI y i) : x % 2 ^ w = y % 2 ^ w := by
  have hp : (0 : Int) < 2 ^ w := Int.pow_pos (by omega)
  refine eq_of_bits w _ _ (Int.emod_nonneg _ (by omega)) (Int.emod_lt_of_pos _ hp) (Int.emod_nonneg _ (by omega)) (Int.emod_lt_of_pos _ hp) ?_
  intro i hi
  rw [bitI_emod _ _ _ hi, bitI_emod _ _ _ hi]; exact h i hi
def kHas (k : IntKind) (n : Int) : Prop := match k.signed with | true => -2 ^ (k.bits - 1) ≤ n ∧ n < 2 ^ (k.bits - 1) | false => 0 ≤ n ∧ n < 2 ^ k.bits
theorem bits_pos (k : IntKind) : 0 < k.bits := by cases k <;> decide
theorem two_bits (k : IntKind) : (2 : Int) ^ k.bits = 2 * 2 ^ (k.bits - 1) := by
  have := bits_pos k
  rw [← Int.pow_succ']; congr 1; omega
theorem wrap_has (k : IntKind) (n : Int) : kHas k (k.wrap n) := by
  unfold kHas IntKind.wrap
  have hp : (0 : Int) < 2 ^ k.bits := Int.pow_pos (by omega)
  have h1 := Int.emod_nonneg n (Int.ne_of_gt hp)
  have h2 := Int.emod_lt_of_pos n hp
  have h3 := two_bits k
  cases hs : k.signed <;> simp
  · exact ⟨h1, h2⟩
  · split <;> omega
theorem eq_of_has {k : IntKind} {x y : Int} (hx : kHas k x) (hy : kHas k y) (h : ∀ i, i < k.bits → bitI x i = bitI y i) : x = y := by
  have e := mod_of_bits k.bits x y h
  unfold kHas at hx hy
  have hp : (0 : Int) < 2 ^ k.bits := Int.pow_pos (by omega)
  have h3 := two_bits k
  split at hx <;> simp_all
  · have a1 := Int.emod_def x (2 ^ k.bits)
    have a2 := Int.emod_def y (2 ^ k.bits)
    have b1 := Int.emod_nonneg x (Int.ne_of_gt hp)
    by_cases c1 : 0 ≤ x <;> by_cases c2 : 0 ≤ y
    · rw [Int.emod_eq_of_lt c1 (by omega), Int.emod_eq_of_lt c2 (by omega)] at e; exact e
    · rw [Int.emod_eq_of_lt c1 (by omega), ← Int.add_mul_emod_self_left y _ 1, Int.emod_eq_of_lt (by omega) (by omega)] at e; omega
    · rw [Int.emod_eq_of_lt c2 (by omega), ← Int.add_mul_emod_self_left x _ 1, Int.emod_eq_of_lt (by omega) (by omega)] at e; omega
    · rw [← Int.add_mul_emod_self_left x _ 1, Int.emod_eq_of_lt (by omega) (by omega), ← Int.add_mul_emod_self_left y _ 1, Int.emod_eq_of_lt (by omega) (by omega)] at e; omega
  · rw [Int.emod_eq_of_lt hx.1 hx.2, Int.emod_eq_of_lt hy.1 hy.2] at e; exact e
theorem wrap_eq {k : IntKind} {n m : Int} (hm : kHas k m) (h : ∀ i, i < k.bits → bitI m i = bitI n i) : k.wrap n = m :=
  eq_of_has (wrap_has k n) hm (fun i hi => by rw [bitI_wrap k n i hi, h i hi])
theorem ofInt_bit (w : Nat) (n : Int) (i : Nat) (h : i < w) : (BitVec.ofInt w n).toNat.testBit i = bitI n i := by
  rw [BitVec.toNat_ofInt, ← bitI_nat]
  have hp : (0 : Int) < 2 ^ w := Int.pow_pos (by omega)
  have h1 := Int.emod_nonneg n (Int.ne_of_gt hp)
  have e : ((n % ((2 ^ w : Nat) : Int)).toNat : Int) = n % 2 ^ w := by
    push_cast
    exact Int.toNat_of_nonneg h1
  rw [e]; exact bitI_emod _ _ _ h
theorem bitsOp_bit (k : IntKind) (f : BitVec k.bits → BitVec k.bits → BitVec k.bits) (g : Bool → Bool → Bool)
    (hf : ∀ (a b : BitVec k.bits) i, i < k.bits → (f a b).getLsbD i = g (a.getLsbD i) (b.getLsbD i)) (x y : Int) (i : Nat) (h : i < k.bits) :
    bitI (bitsOp k f x y) i = g (bitI x i) (bitI y i) := by
  unfold bitsOp
  rw [bitI_wrap _ _ _ h, bitI_nat]
  have := hf (BitVec.ofInt k.bits x) (BitVec.ofInt k.bits y) i h
  simp only [BitVec.getLsbD] at this
  rw [this, ofInt_bit _ _ _ h, ofInt_bit _ _ _ h]
theorem bitsOp_has (k : IntKind) (f : BitVec k.bits → BitVec k.bits → BitVec k.bits) (x y : Int) : kHas k (bitsOp k f x y) := wrap_has _ _
end
end Go.Sx
namespace Go.Sx
noncomputable section
theorem bitI_shl (n : Int) (c i : Nat) : bitI (n * 2 ^ c) i = (decide (c ≤ i) && bitI n (i - c)) := by
  unfold bitI
  by_cases h : c ≤ i
  · obtain ⟨d, rfl⟩ : ∃ d, i = c + d := ⟨i - c, by omega⟩
    have e : (n * 2 ^ c) / 2 ^ (c + d) = n / 2 ^ d := by
      rw [Int.pow_add, Int.mul_comm n, Int.mul_ediv_mul_of_pos _ _ (Int.pow_pos (by omega))]
    rw [e]; simp
  · obtain ⟨d, rfl⟩ : ∃ d, c = i + 1 + d := ⟨c - i - 1, by omega⟩
    have e : (n * 2 ^ (i + 1 + d)) / 2 ^ i = 2 * (n * 2 ^ d) := by
      have : n * 2 ^ (i + 1 + d) = 2 * (n * 2 ^ d) * 2 ^ i := by
        rw [Int.pow_add, Int.pow_succ]
        simp only [Int.mul_comm, Int.mul_left_comm, Int.mul_assoc]
      rw [this, Int.mul_ediv_cancel _ (Int.ne_of_gt (Int.pow_pos (by omega)))]
    rw [e]
    have h0 : ¬ (i + 1 + d ≤ i) := by omega
    simp [h0]
theorem bitI_shr (n : Int) (c i : Nat) : bitI (n / 2 ^ c) i = bitI n (c + i) := by
  unfold bitI
  rw [Int.ediv_ediv_of_nonneg (Int.le_of_lt (Int.pow_pos (by omega))), ← Int.pow_add]
end
end Go.Sx
namespace Go.Sx
noncomputable section
open Go.RowKit
end
end Go.Sx
namespace Go.Sx
noncomputable section
open Go.ChangeShapes Go.WideShapes Go.RowKit Go.Joins Go.Deep
def flatKinds (P : Program) : List Field → Option (List (Option IntKind))
  | [] => some []
  | f :: r => match P.underlying f.type, flatKinds P r with
    | some (.int k), some l => some (some k :: l)
    | some .bool, some l => some (none :: l)
    | _, _ => none
theorem flatKinds_at {P : Program} : ∀ {l : List Field} {ks : List (Option IntKind)}, flatKinds P l = some ks → l.length = ks.length ∧ ∀ (j : Nat) (f : Field), l[j]? = some f →
    (∃ k, ks[j]? = some (some k) ∧ P.underlying f.type = some (.int k)) ∨ (ks[j]? = some none ∧ P.underlying f.type = some .bool)
  | [], ks, h => by simp [flatKinds] at h; subst h; simp
  | f :: r, ks, h => by
    unfold flatKinds at h
    split at h
    · rename_i k l hu hr
      simp at h; subst h
      obtain ⟨h1, h2⟩ := flatKinds_at hr
      refine ⟨by simp [h1], ?_⟩
      intro j g hj
      cases j with
      | zero => simp at hj; subst hj; exact .inl ⟨k, by simp, hu⟩
      | succ j => simpa using h2 j g (by simpa using hj)
    · rename_i l hu hr
      simp at h; subst h
      obtain ⟨h1, h2⟩ := flatKinds_at hr
      refine ⟨by simp [h1], ?_⟩
      intro j g hj
      cases j with
      | zero => simp at hj; subst hj; exact .inr ⟨by simp, hu⟩
      | succ j => simpa using h2 j g (by simpa using hj)
    · cases h
end
end Go.Sx
namespace Go.Sx
noncomputable section
section
theorem wrap_of_has {k : IntKind} {n : Int} (h : kHas k n) : k.wrap n = n := wrap_eq h (fun _ _ => rfl)
end
end
end Go.Sx
namespace Go.Sx
noncomputable section
section
theorem and_bit (k : IntKind) (x y : Int) (i : Nat) (h : i < k.bits) : bitI (bitsOp k (fun a b => a &&& b) x y) i = (bitI x i && bitI y i) :=
  bitsOp_bit k _ _ (fun _ _ _ _ => BitVec.getLsbD_and) x y i h
end
end
end Go.Sx
namespace Go.Sx
noncomputable section
end
end Go.Sx
namespace Go.Sx
noncomputable section
open Go.RowKit
theorem wf_has {k : IntKind} {n : Int} (h : (Lit.int k n).wf = true) : kHas k n := by
  simp only [Lit.wf, Bool.and_eq_true, decide_eq_true_eq] at h
  unfold kHas
  cases k <;> simp_all [IntKind.min, IntKind.max, IntKind.signed, IntKind.bits] <;> omega
end
end Go.Sx
namespace Go.Sx
noncomputable section
namespace Ones
def m0 : Nat := 6148914691236517205
def m1 : Nat := 3689348814741910323
def m2 : Nat := 1085102592571150095
def n1 (x : Nat) : Nat := Nat.add (Nat.land (Nat.shiftRight x 1) m0) (Nat.land x m0)
def n2 (x : Nat) : Nat := Nat.add (Nat.land (Nat.shiftRight x 2) m1) (Nat.land x m1)
def n3 (x : Nat) : Nat := Nat.land (Nat.add (Nat.shiftRight x 4) x) m2
def n4 (x : Nat) : Nat := Nat.add x (Nat.shiftRight x 8)
def n5 (x : Nat) : Nat := Nat.add x (Nat.shiftRight x 16)
def n6 (x : Nat) : Nat := Nat.add x (Nat.shiftRight x 32)
def onesN (x : Nat) : Nat := Nat.land (n6 (n5 (n4 (n3 (n2 (n1 x)))))) 127
theorem and_nat {k : IntKind} {a b : Nat} (_ : kHas k (a : Int)) (_ : kHas k (b : Int)) (hab : kHas k ((a &&& b : Nat) : Int)) : bitsOp k (fun x y => x &&& y) (a : Int) (b : Int) = ((a &&& b : Nat) : Int) := by
  refine eq_of_has (bitsOp_has _ _ _ _) hab ?_
  intro i hi
  rw [and_bit k _ _ i hi, bitI_nat, bitI_nat, bitI_nat, Nat.testBit_and]
theorem u_has {a : Nat} (h : a < 2 ^ 64) : kHas .u64 (a : Int) := by
  show 0 ≤ (a : Int) ∧ (a : Int) < 2 ^ 64
  omega
end Ones
end
end Go.Sx
