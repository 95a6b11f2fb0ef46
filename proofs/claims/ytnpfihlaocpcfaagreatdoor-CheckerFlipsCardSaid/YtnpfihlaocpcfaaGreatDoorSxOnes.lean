/- Whether an instruction may be, as a term. -/
import Derived.Test.YtnpfihlaocpcfaaGreatDoorSxPx
import Derived.Test.YtnpfihlaocpcfaaGreatDoorSxRg
namespace Go.Sx
noncomputable section
namespace Chk
def x (i : Nat) : Tm := .var i
def all : List Tm → Tm
  | [] => .bit true
  | [a] => a
  | a :: r => .op2 .band a (all r)
def or (a b : Tm) : Tm := .op2 .bor a b
def is (a : Tm) (n : Int) : Tm := .op2 .eq a (.num n)
def ge (a : Tm) (n : Int) : Tm := .op2 .le (.num n) a
def le (a : Tm) (n : Int) : Tm := .op2 .le a (.num n)
def no (a : Tm) : Tm := .op1 .not a
def inn (a : Tm) (m n : Int) : Tm := .op2 .band (ge a m) (le a n)
def plain (a : Tm) : Tm := or (inn a 0 12) (is a 14)
def op : Tm := x 0
def cond : Tm := x 1
def rd : Tm := x 2
def rn : Tm := x 3
def rm : Tm := x 4
def imm : Tm := x 5
def mode : Tm := x 6
def lst : Tm := x 7
def s : Tm := x 8
def zero (l : List Tm) : List Tm := l.map fun a => is a 0
def last (m n : Int) : Tm := .ite (is mode 2) (all [is imm 0, plain rm]) (all [is mode 1, is rm 0, inn imm m n])
def great : Int := 4294967295
/-- the sign of 'how many bits' -/
def popS : Nat := 900
def regsIn (mask : Int) : List Tm := [.op2 .lt (.num 0) lst, is (.op2 (.andNot .i64) lst (.num mask)) 0]
def even : Tm := is (.op2 (.and .i64) imm (.num 1)) 0
def ok : Tm :=
  .ite (le op 9) (all (zero [cond, lst] ++ [plain rd, plain rn, last 0 great])) <|
  .ite (all [is op 10, is mode 2, no s]) (all (zero [cond, lst, rn, imm] ++ [inn rd 0 14, inn rm 0 14])) <|
  .ite (le op 11) (all (zero [cond, lst, rn] ++ [plain rd, last 0 great])) <|
  .ite (le op 15) (all (zero [cond, lst, rd] ++ [no s, plain rn, last 0 great])) <|
  .ite (le op 19) (all (zero [cond, lst] ++ [plain rd, plain rn, .ite (or (is op 17) (is op 18)) (last 1 32) (last 1 31)])) <|
  .ite (le op 22) (all (zero [cond, lst, imm] ++ [no s, plain rd, plain rn, is mode 2, plain rm])) <|
  .ite (le op 24) (all (zero [cond, lst, rn, rm] ++ [no s, plain rd, is mode 1, inn imm 0 65535])) <|
  .ite (le op 30) (all (zero [cond, lst] ++ [no s, plain rd, or (plain rn) (is rn 13), last 0 4095])) <|
  .ite (le op 32) (all (zero [cond, rd, rm, imm, mode] ++ [no s, plain rn] ++ regsIn 0x5FFF ++ [.op2 .le (.num 2) (.app popS (.cons lst .nil)), is (.op2 (.and .i64) (.op2 (.shr .i64) lst rn) (.num 1)) 0])) <|
  .ite (is op 33) (all (zero [cond, rd, rn, rm, imm, mode] ++ [no s] ++ regsIn 0x5FFF)) <|
  .ite (is op 34) (all (zero [cond, rd, rn, rm, imm, mode] ++ [no s] ++ regsIn 0xDFFF ++ [no (is (.op2 (.and .i64) (.op2 (.shr .i64) lst (.num 14)) (.num 3)) 3)])) <|
  .ite (is op 35) (all (zero [rd, rn, rm, lst] ++ [no s, inn cond 0 14, is mode 1, inn imm (-16777216) 16777214, even])) <|
  .ite (is op 36) (all (zero [cond, rd, rn, rm, lst] ++ [no s, is mode 1, inn imm (-16777216) 16777214, even])) <|
  .ite (le op 38) (all (zero [cond, rd, rm, lst] ++ [no s, inn rn 0 7, is mode 1, inn imm 0 126, even])) <|
  .ite (is op 39) (all (zero [cond, rd, rn, imm, lst] ++ [no s, is mode 2, inn rm 0 14])) <|
  .ite (le op 41) (all (zero [cond, rn, rm, lst] ++ [no s, plain rd, is mode 1, inn imm (-4095) 4095])) <|
  .ite (is op 42) (all (zero [rd, rn, rm, lst] ++ [no s, is mode 1, inn cond 0 14, inn imm 1 15, or (no (is cond 14)) (or (is imm 1) (or (is imm 2) (or (is imm 4) (is imm 8))))])) <|
  .ite (is op 43) (all (zero [cond, rd, rn, rm, imm, mode, lst] ++ [no s])) <|
  .ite (is op 44) (all (zero [cond, rd, rn, rm, lst] ++ [no s, is mode 1, inn imm 0 255])) <|
  all (zero [cond, rd, imm, lst] ++ [no s, is mode 2, plain rn, plain rm])
/-- The error's number. -/
def chk : Tm := .ite (all [inn op 1 45, ok]) (.num 0) (.num 6)
end Chk
end
end Go.Sx

/- How many ones a small number has: the library's way, by a term, is the plain one. -/
namespace Go.Sx
noncomputable section
namespace Ones

def popN : Nat → Nat → Nat
  | 0, _ => 0
  | k + 1, n => n % 2 + popN k (n / 2)

theorem popB_nat : ∀ (k n : Nat), popB k (n : Int) = popN k n
  | 0, _ => rfl
  | k + 1, n => by
    simp only [popB, popN]
    rw [show ((n : Int) / 2) = ((n / 2 : Nat) : Int) by omega, popB_nat k (n / 2)]
    congr 1
    have : n % 2 = 0 ∨ n % 2 = 1 := by omega
    rcases this with h | h
    · rw [if_neg (by omega), h]
    · rw [if_pos (by omega), h]

theorem popN_add : ∀ (a b n : Nat), popN (a + b) n = popN a n + popN b (n / 2 ^ a)
  | 0, b, n => by simp [popN]
  | a + 1, b, n => by
    rw [show a + 1 + b = (a + b) + 1 by omega, popN, popN, popN_add a b (n / 2), Nat.div_div_eq_div_mul, Nat.pow_succ, Nat.mul_comm 2, Nat.add_assoc]

theorem popN_zero : ∀ k, popN k 0 = 0
  | 0 => rfl
  | k + 1 => by simp [popN, popN_zero k]

theorem popI_small (n : Nat) (h : n < 65536) : popI (n : Int) = popN 16 n := by
  unfold popI
  rw [popB_nat, show 64 = 16 + 48 from rfl, popN_add, show n / 2 ^ 16 = 0 from Nat.div_eq_of_lt (by omega), popN_zero]; rfl

def m0 : Nat := 6148914691236517205
def m1 : Nat := 3689348814741910323
def m2 : Nat := 1085102592571150095

def n1 (x : Nat) : Nat := Nat.add (Nat.land (Nat.shiftRight x 1) m0) (Nat.land x m0)
def n2 (x : Nat) : Nat := Nat.add (Nat.land (Nat.shiftRight x 2) m1) (Nat.land x m1)
def n3 (x : Nat) : Nat := Nat.land (Nat.add (Nat.shiftRight x 4) x) m2
def n4 (x : Nat) : Nat := Nat.add x (Nat.shiftRight x 8)
def n5 (x : Nat) : Nat := Nat.add x (Nat.shiftRight x 16)
def n6 (x : Nat) : Nat := Nat.add x (Nat.shiftRight x 32)
def onesN (x : Nat) : Nat := Nat.land (n6 (n5 (n4 (n3 (n2 (n1 x)))))) 127

def allN : Nat → (Nat → Bool) → Bool
  | 0, _ => true
  | n + 1, f => f n && allN n f

theorem allN_get : ∀ (n : Nat) (f : Nat → Bool), allN n f = true → ∀ i, i < n → f i = true
  | 0, _, _, i, h => by omega
  | n + 1, f, h, i, hi => by
    simp only [allN, Bool.and_eq_true] at h
    by_cases he : i = n
    · subst he; exact h.1
    · exact allN_get n f h.2 i (by omega)

def okAt (a : Nat) : Bool := allN 256 fun b => Nat.beq (onesN (Nat.add (Nat.mul 256 a) b)) (popN 16 (Nat.add (Nat.mul 256 a) b))

def q (o : IntKind → Op2) (a b : Tm) : Tm := .op2 (o .u64) a b
def t1 (x : Tm) : Tm := q .add (q .and (q .shr x (.num 1)) (.num m0)) (q .and x (.num m0))
def t2 (x : Tm) : Tm := q .add (q .and (q .shr x (.num 2)) (.num m1)) (q .and x (.num m1))
def t3 (x : Tm) : Tm := q .and (q .add (q .shr x (.num 4)) x) (.num m2)
def t4 (x : Tm) : Tm := q .add x (q .shr x (.num 8))
def t5 (x : Tm) : Tm := q .add x (q .shr x (.num 16))
def t6 (x : Tm) : Tm := q .add x (q .shr x (.num 32))
def onesE : Tm := .op2 (.and .i64) (.op1 (.conv .i64) (t6 (t5 (t4 (t3 (t2 (t1 (.var 0)))))))) (.num 127)

theorem and_nat {k : IntKind} {a b : Nat} (_ : kHas k (a : Int)) (_ : kHas k (b : Int)) (hab : kHas k ((a &&& b : Nat) : Int)) : bitsOp k (fun x y => x &&& y) (a : Int) (b : Int) = ((a &&& b : Nat) : Int) := by
  refine eq_of_has (bitsOp_has _ _ _ _) hab ?_
  intro i hi
  rw [and_bit k _ _ i hi, bitI_nat, bitI_nat, bitI_nat, Nat.testBit_and]

theorem u_has {a : Nat} (h : a < 2 ^ 64) : kHas .u64 (a : Int) := by
  show 0 ≤ (a : Int) ∧ (a : Int) < 2 ^ 64
  omega

variable {ρ : Env}

theorem and_u {x y : Tm} {a b : Nat} (hx : x.den ρ = .int a) (hy : y.den ρ = .int b) (ha : a < 2 ^ 64) (hb : b < 2 ^ 64) : (q .and x y).den ρ = .int ((a &&& b : Nat) : Int) := by
  simp only [q, Tm.den, hx, hy, Op2.ev, Sc.asInt_int]
  rw [and_nat (u_has ha) (u_has hb) (u_has (Nat.lt_of_le_of_lt Nat.and_le_left ha))]

theorem add_u {x y : Tm} {a b : Nat} (hx : x.den ρ = .int a) (hy : y.den ρ = .int b) (h : a + b < 2 ^ 64) : (q .add x y).den ρ = .int ((a + b : Nat) : Int) := by
  simp only [q, Tm.den, hx, hy, Op2.ev, Sc.asInt_int]
  rw [← Int.natCast_add, wrap_of_has (u_has h)]

theorem shr_u {x : Tm} {a n : Nat} (hx : x.den ρ = .int a) (hn : n ≤ 64) : (q .shr x (.num n)).den ρ = .int ((a >>> n : Nat) : Int) := by
  simp only [q, Tm.den, hx, Op2.ev, Sc.asInt_int, shrOp, Int.toNat_natCast]
  rw [show min n (IntKind.bits .u64) = n from Nat.min_eq_left hn, Int.fdiv_eq_ediv_of_nonneg _ (Int.le_of_lt (Int.pow_pos (by omega))), Nat.shiftRight_eq_div_pow]
  congr 1

theorem shr_le (a n : Nat) : a >>> n ≤ a := by rw [Nat.shiftRight_eq_div_pow]; exact Nat.div_le_self _ _

theorem ones_den (n : Nat) (h : n < 65536) (hv : ρ.v 0 = .int n) : onesE.den ρ = .int (onesN n : Int) := by
  have num : ∀ m : Nat, (Tm.num (m : Int)).den ρ = .int (m : Int) := fun _ => rfl
  have hm0 : m0 < 2 ^ 64 := by decide
  have hm1 : m1 < 2 ^ 64 := by decide
  have hm2 : m2 < 2 ^ 64 := by decide
  have e0 : (Tm.var 0).den ρ = .int (n : Int) := hv
  have b1 : n1 n < 2 ^ 18 := by
    have h1 : (n >>> 1) &&& m0 ≤ n >>> 1 := Nat.and_le_left
    have h2 : n &&& m0 ≤ n := Nat.and_le_left
    have h3 := shr_le n 1
    show ((n >>> 1) &&& m0) + (n &&& m0) < _
    omega
  have e1 : (t1 (.var 0)).den ρ = .int (n1 n : Int) := by
    have h1 : (n >>> 1) &&& m0 ≤ n >>> 1 := Nat.and_le_left
    have h2 : n &&& m0 ≤ n := Nat.and_le_left
    have h3 := shr_le n 1
    have s1 := shr_u (n := 1) e0 (by omega)
    have s2 := and_u s1 (num m0) (by omega) hm0
    have s3 := and_u e0 (num m0) (by omega) hm0
    have s9 := add_u s2 s3 (by omega)
    exact s9
  generalize hx1 : n1 n = x1 at *
  have b2 : n2 x1 < 2 ^ 20 := by
    have h1 : (x1 >>> 2) &&& m1 ≤ x1 >>> 2 := Nat.and_le_left
    have h2 : x1 &&& m1 ≤ x1 := Nat.and_le_left
    have h3 := shr_le x1 2
    show ((x1 >>> 2) &&& m1) + (x1 &&& m1) < _
    omega
  have e2 : (t2 (t1 (.var 0))).den ρ = .int (n2 x1 : Int) := by
    have h1 : (x1 >>> 2) &&& m1 ≤ x1 >>> 2 := Nat.and_le_left
    have h2 : x1 &&& m1 ≤ x1 := Nat.and_le_left
    have h3 := shr_le x1 2
    have s1 := shr_u (n := 2) e1 (by omega)
    have s2 := and_u s1 (num m1) (by omega) hm1
    have s3 := and_u e1 (num m1) (by omega) hm1
    have s9 := add_u s2 s3 (by omega)
    exact s9
  generalize hx2 : n2 x1 = x2 at *
  have b3 : n3 x2 < 2 ^ 22 := by
    have h1 : (x2 >>> 4 + x2) &&& m2 ≤ x2 >>> 4 + x2 := Nat.and_le_left
    have h3 := shr_le x2 4
    show ((x2 >>> 4) + x2) &&& m2 < _
    omega
  have e3 : (t3 (t2 (t1 (.var 0)))).den ρ = .int (n3 x2 : Int) := by
    have h3 := shr_le x2 4
    have s1 := shr_u (n := 4) e2 (by omega)
    have s2 := add_u s1 e2 (by omega)
    have s9 := and_u s2 (num m2) (by omega) hm2
    exact s9
  generalize hx3 : n3 x2 = x3 at *
  have b4 : n4 x3 < 2 ^ 24 := by
    have h3 := shr_le x3 8
    show x3 + (x3 >>> 8) < _
    omega
  have e4 : (t4 (t3 (t2 (t1 (.var 0))))).den ρ = .int (n4 x3 : Int) := by
    have h3 := shr_le x3 8
    have s1 := shr_u (n := 8) e3 (by omega)
    have s9 := add_u e3 s1 (by omega)
    exact s9
  generalize hx4 : n4 x3 = x4 at *
  have b5 : n5 x4 < 2 ^ 26 := by
    have h3 := shr_le x4 16
    show x4 + (x4 >>> 16) < _
    omega
  have e5 : (t5 (t4 (t3 (t2 (t1 (.var 0)))))).den ρ = .int (n5 x4 : Int) := by
    have h3 := shr_le x4 16
    have s1 := shr_u (n := 16) e4 (by omega)
    have s9 := add_u e4 s1 (by omega)
    exact s9
  generalize hx5 : n5 x4 = x5 at *
  have b6 : n6 x5 < 2 ^ 28 := by
    have h3 := shr_le x5 32
    show x5 + (x5 >>> 32) < _
    omega
  have e6 : (t6 (t5 (t4 (t3 (t2 (t1 (.var 0))))))).den ρ = .int (n6 x5 : Int) := by
    have h3 := shr_le x5 32
    have s1 := shr_u (n := 32) e5 (by omega)
    have s9 := add_u e5 s1 (by omega)
    exact s9
  have i_has : ∀ a : Nat, a < 2 ^ 63 → kHas .i64 (a : Int) := fun a h => by
    show -2 ^ 63 ≤ (a : Int) ∧ (a : Int) < 2 ^ 63
    omega
  simp only [onesE, Tm.den, e6, Op1.ev, Op2.ev, Sc.asInt_int]
  rw [wrap_of_has (i_has _ (by omega))]
  have := and_nat (k := .i64) (i_has (n6 x5) (by omega)) (i_has 127 (by omega)) (i_has _ (Nat.lt_of_le_of_lt Nat.and_le_left (by omega : n6 x5 < 2 ^ 63)))
  have h127 : ((127 : Nat) : Int) = 127 := rfl
  rw [h127] at this
  rw [this]
  show Sc.int ((n6 x5 &&& 127 : Nat) : Int) = _
  unfold onesN
  rw [hx1, hx2, hx3, hx4, hx5]
  rfl

end Ones
end
end Go.Sx
