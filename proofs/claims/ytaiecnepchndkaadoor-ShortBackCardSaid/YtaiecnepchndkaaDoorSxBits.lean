/- The bits of whole numbers. -/
import Derived.Test.YtaiecnepchndkaaDoorSxTm0
namespace Go.Sx

def bitI (n : Int) (i : Nat) : Bool := decide (n / 2 ^ i % 2 = 1)

theorem bitI_zero (n : Int) : bitI n 0 = decide (n % 2 = 1) := by simp [bitI]

theorem bitI_succ (n : Int) (i : Nat) : bitI n (i + 1) = bitI (n / 2) i := by
  unfold bitI
  rw [Int.pow_succ', Int.ediv_ediv_of_nonneg (by omega)]

theorem bitI_two (n : Int) (b : Bool) : bitI (2 * n + (if b then 1 else 0)) 0 = b := by
  rw [bitI_zero]; cases b <;> simp <;> omega

theorem bitI_two_succ (n : Int) (b : Bool) (i : Nat) : bitI (2 * n + (if b then 1 else 0)) (i + 1) = bitI n i := by
  rw [bitI_succ]; congr 1; cases b <;> simp <;> omega

theorem bitI_nat (n i : Nat) : bitI n i = n.testBit i := by
  unfold bitI
  rw [Nat.testBit_eq_decide_div_mod_eq]
  have h : ((n : Int) / 2 ^ i % 2) = ((n / 2 ^ i % 2 : Nat) : Int) := by simp
  rw [h]
  exact decide_eq_decide.2 (by omega)

theorem bitI_sub_mul (n q : Int) (w i : Nat) (h : i < w) : bitI (n - 2 ^ w * q) i = bitI n i := by
  unfold bitI
  obtain ⟨d, rfl⟩ : ∃ d, w = i + 1 + d := ⟨w - i - 1, by omega⟩
  have e : n - 2 ^ (i + 1 + d) * q = n + 2 ^ i * (2 * (-(2 ^ d * q))) := by
    rw [Int.pow_add, Int.pow_succ]
    have : (2 : Int) ^ i * 2 * 2 ^ d * q = 2 ^ i * (2 * (2 ^ d * q)) := by simp only [Int.mul_assoc]
    rw [this]
    have : 2 * (-(2 ^ d * q : Int)) = -(2 * (2 ^ d * q)) := by omega
    rw [this, Int.mul_neg]
    omega
  rw [e, Int.add_mul_ediv_left _ _ (by exact Int.ne_of_gt (Int.pow_pos (by omega)))]
  have : (n / 2 ^ i + 2 * -(2 ^ d * q)) % 2 = n / 2 ^ i % 2 := by omega
  rw [this]

theorem bitI_emod (n : Int) (w i : Nat) (h : i < w) : bitI (n % 2 ^ w) i = bitI n i := by
  rw [Int.emod_def]; exact bitI_sub_mul n _ w i h

theorem bitI_wrap (k : IntKind) (n : Int) (i : Nat) (h : i < k.bits) : bitI (k.wrap n) i = bitI n i := by
  unfold IntKind.wrap
  simp only
  split
  · have := bitI_sub_mul (n % 2 ^ k.bits) 1 k.bits i h
    rw [Int.mul_one] at this
    rw [this]; exact bitI_emod _ _ _ h
  · exact bitI_emod _ _ _ h

/-- Far up stands the sign. -/
theorem bitI_high (n : Int) (k i : Nat) (h1 : -2 ^ k ≤ n) (h2 : n < 2 ^ k) (h : k ≤ i) : bitI n i = decide (n < 0) := by
  unfold bitI
  have hk : (2 : Int) ^ k ≤ 2 ^ i := by
    exact_mod_cast Nat.pow_le_pow_right (by omega) h
  have hp : (0 : Int) < 2 ^ i := Int.pow_pos (by omega)
  by_cases hn : n < 0
  · have e : n / 2 ^ i = -1 := by
      have h3 : n / 2 ^ i < 0 := Int.ediv_neg_of_neg_of_pos hn hp
      have h4 : -1 ≤ n / 2 ^ i := by
        rw [Int.le_ediv_iff_mul_le hp]; omega
      omega
    rw [e]; simp [hn]
  · have e : n / 2 ^ i = 0 := Int.ediv_eq_zero_of_lt (by omega) (by omega)
    rw [e]; simp [hn]

/-- Numbers of so many bits that have the same bits are the same. -/
theorem eq_of_bits (w : Nat) (x y : Int) (hx : 0 ≤ x) (hx' : x < 2 ^ w) (hy : 0 ≤ y) (hy' : y < 2 ^ w) (h : ∀ i, i < w → bitI x i = bitI y i) : x = y := by
  obtain ⟨a, rfl⟩ := Int.eq_ofNat_of_zero_le hx
  obtain ⟨b, rfl⟩ := Int.eq_ofNat_of_zero_le hy
  have ha : a < 2 ^ w := by exact_mod_cast hx'
  have hb : b < 2 ^ w := by exact_mod_cast hy'
  congr 1
  apply Nat.eq_of_testBit_eq
  intro i
  by_cases hi : i < w
  · rw [← bitI_nat, ← bitI_nat]; exact h i hi
  · rw [Nat.testBit_lt_two_pow (Nat.lt_of_lt_of_le ha (Nat.pow_le_pow_right (by omega) (by omega))), Nat.testBit_lt_two_pow (Nat.lt_of_lt_of_le hb (Nat.pow_le_pow_right (by omega) (by omega)))]

theorem mod_of_bits (w : Nat) (x y : Int) (h : ∀ i, i < w → bitI x i = bitI y i) : x % 2 ^ w = y % 2 ^ w := by
  have hp : (0 : Int) < 2 ^ w := Int.pow_pos (by omega)
  refine eq_of_bits w _ _ (Int.emod_nonneg _ (by omega)) (Int.emod_lt_of_pos _ hp) (Int.emod_nonneg _ (by omega)) (Int.emod_lt_of_pos _ hp) ?_
  intro i hi
  rw [bitI_emod _ _ _ hi, bitI_emod _ _ _ hi]; exact h i hi

/-- A number that a kind has. -/
def kHas (k : IntKind) (n : Int) : Prop := match k.signed with | true => -2 ^ (k.bits - 1) ≤ n ∧ n < 2 ^ (k.bits - 1) | false => 0 ≤ n ∧ n < 2 ^ k.bits

theorem bits_pos (k : IntKind) : 0 < k.bits := by cases k <;> decide

theorem two_bits (k : IntKind) : (2 : Int) ^ k.bits = 2 * 2 ^ (k.bits - 1) := by
  have := bits_pos k
  rw [← Int.pow_succ']; congr 1; omega

theorem wrap_has (k : IntKind) (n : Int) : kHas k (k.wrap n) := by
  unfold kHas IntKind.wrap
  have hp : (0 : Int) < 2 ^ k.bits := Int.pow_pos (by omega)
  have h1 := Int.emod_nonneg n (Int.ne_of_gt hp)
  have h2 := Int.emod_lt_of_pos n hp
  have h3 := two_bits k
  cases hs : k.signed <;> simp
  · exact ⟨h1, h2⟩
  · split <;> omega

/-- A kind's numbers are told by their bits. -/
theorem eq_of_has {k : IntKind} {x y : Int} (hx : kHas k x) (hy : kHas k y) (h : ∀ i, i < k.bits → bitI x i = bitI y i) : x = y := by
  have e := mod_of_bits k.bits x y h
  unfold kHas at hx hy
  have hp : (0 : Int) < 2 ^ k.bits := Int.pow_pos (by omega)
  have h3 := two_bits k
  split at hx <;> simp_all
  · have a1 := Int.emod_def x (2 ^ k.bits)
    have a2 := Int.emod_def y (2 ^ k.bits)
    have b1 := Int.emod_nonneg x (Int.ne_of_gt hp)
    by_cases c1 : 0 ≤ x <;> by_cases c2 : 0 ≤ y
    · rw [Int.emod_eq_of_lt c1 (by omega), Int.emod_eq_of_lt c2 (by omega)] at e; exact e
    · rw [Int.emod_eq_of_lt c1 (by omega), ← Int.add_mul_emod_self_left y _ 1, Int.emod_eq_of_lt (by omega) (by omega)] at e; omega
    · rw [Int.emod_eq_of_lt c2 (by omega), ← Int.add_mul_emod_self_left x _ 1, Int.emod_eq_of_lt (by omega) (by omega)] at e; omega
    · rw [← Int.add_mul_emod_self_left x _ 1, Int.emod_eq_of_lt (by omega) (by omega), ← Int.add_mul_emod_self_left y _ 1, Int.emod_eq_of_lt (by omega) (by omega)] at e; omega
  · rw [Int.emod_eq_of_lt hx.1 hx.2, Int.emod_eq_of_lt hy.1 hy.2] at e; exact e

theorem wrap_eq {k : IntKind} {n m : Int} (hm : kHas k m) (h : ∀ i, i < k.bits → bitI m i = bitI n i) : k.wrap n = m :=
  eq_of_has (wrap_has k n) hm (fun i hi => by rw [bitI_wrap k n i hi, h i hi])

theorem ofInt_bit (w : Nat) (n : Int) (i : Nat) (h : i < w) : (BitVec.ofInt w n).toNat.testBit i = bitI n i := by
  rw [BitVec.toNat_ofInt, ← bitI_nat]
  have hp : (0 : Int) < 2 ^ w := Int.pow_pos (by omega)
  have h1 := Int.emod_nonneg n (Int.ne_of_gt hp)
  have e : ((n % ((2 ^ w : Nat) : Int)).toNat : Int) = n % 2 ^ w := by
    push_cast
    exact Int.toNat_of_nonneg h1
  rw [e]; exact bitI_emod _ _ _ h

theorem bitsOp_bit (k : IntKind) (f : BitVec k.bits → BitVec k.bits → BitVec k.bits) (g : Bool → Bool → Bool)
    (hf : ∀ (a b : BitVec k.bits) i, i < k.bits → (f a b).getLsbD i = g (a.getLsbD i) (b.getLsbD i)) (x y : Int) (i : Nat) (h : i < k.bits) :
    bitI (bitsOp k f x y) i = g (bitI x i) (bitI y i) := by
  unfold bitsOp
  rw [bitI_wrap _ _ _ h, bitI_nat]
  have := hf (BitVec.ofInt k.bits x) (BitVec.ofInt k.bits y) i h
  simp only [BitVec.getLsbD] at this
  rw [this, ofInt_bit _ _ _ h, ofInt_bit _ _ _ h]

theorem bitsOp_has (k : IntKind) (f : BitVec k.bits → BitVec k.bits → BitVec k.bits) (x y : Int) : kHas k (bitsOp k f x y) := wrap_has _ _

end Go.Sx
