/- The cases of an instruction for its halfword. -/
import Derived.Test.YtnpfihlaocpcfaaGreatDoorSxBack
namespace Go.Sx
noncomputable section
namespace Cb
def V (i : Nat) : Tm := .var i
def num (n : Int) : Tm := .num n
def and (a : Tm) (m : Int) : Tm := .op2 (.and .i64) a (.num m)
def le (a b : Tm) : Tm := .op2 .le a b
def lt (a b : Tm) : Tm := .op2 .lt a b
def eq (a b : Tm) : Tm := .op2 .eq a b
def no (a : Tm) : Tm := .op1 .not a
def rem (a : Tm) (n : Int) : Tm := .op2 .rem a (.num n)
def quo (a : Tm) (n : Int) : Tm := .op2 (.quo .i64) a (.num n)
/-- a variable within 0 .. m, as its bits -/
def msk (i : Nat) (m : Int) : Cas := ⟨[le (num 0) (V i), le (V i) (num m)], [(i, false, and (V i) m)], []⟩
def lo (i : Nat) : Cas := msk i 7
def hi (i : Nat) : Cas := ⟨[le (num 8) (V i), le (V i) (num 15)], [(i, false, .op2 (.or .i64) (.num 8) (and (V i) 7))], []⟩
def lit (i : Nat) (n : Int) : Cas := ⟨[eq (V i) (num n)], [(i, false, num n)], []⟩
def tru (i : Nat) : Cas := ⟨[V i], [(i, true, .bit true)], []⟩
def fls (i : Nat) : Cas := ⟨[no (V i)], [(i, true, .bit false)], []⟩
/-- what is so, and the walk is told -/
def told (l : List Tm) : Cas := ⟨l, [], l⟩
def R (i : Nat) : List Cas := [lo i, hi i]
def zs : List Nat → List Cas
  | [] => [⟨[], [], []⟩]
  | i :: l => Cas.mul [lit i 0] (zs l)
def prod : List (List Cas) → List Cas
  | [] => [⟨[], [], []⟩]
  | a :: r => Cas.mul a (prod r)
/-- above a number -/
def above (i : Nat) (n : Int) : Cas := told [no (le (V i) (num n))]
/-- within a .. 2^b - 1 -/
def mid (i : Nat) (a m : Int) : Cas := ⟨[le (num (a + 1)) (V i), le (V i) (num m)], [(i, false, and (V i) m)], [no (le (and (V i) m) (num a))]⟩
/-- a multiple of a power of two, by its bits -/
def mult (i : Nat) (m low : Int) : Cas := ⟨[le (num 0) (V i), le (V i) (num m), eq (and (V i) low) (num 0)], [(i, false, and (V i) m)], []⟩
def odd (i : Nat) (top low : Int) : Cas := ⟨[le (num 0) (V i), le (V i) (num top), no (eq (and (V i) low) (num 0))], [], [no (eq (rem (V i) (low + 1)) (num 0))]⟩
def far (i : Nat) (top m low : Int) : Cas := ⟨[le (num 0) (V i), le (V i) (num top), eq (and (V i) low) (num 0), no (le (V i) (num m))], [], [eq (rem (V i) (low + 1)) (num 0), no (le (quo (V i) (low + 1)) (num 31))]⟩
/-- all of an operation that 'Check' has refused -/
def chkL (k : Nat) : Tm := .cons (.num (.ofNat k)) (.cons (V 1) (.cons (V 2) (.cons (V 3) (.cons (V 4) (.cons (V 5) (.cons (V 6) (.cons (V 7) (.cons (V 8) .nil))))))))
def refused (k : Nat) : Cas := told [no (eq (.app 901 (chkL k)) (num 0))]
/-- an offset of a kind -/
def fits (i : Nat) (l h : Int) : Cas := ⟨[le (num l) (V i), le (V i) (num h), eq (and (V i) 1) (num 0)], [], [le (num l) (V i), le (V i) (num h), eq (rem (V i) 2) (num 0)]⟩
def under (i : Nat) (l : Int) : Cas := ⟨[no (le (num l) (V i)), le (num (-16777216)) (V i), eq (and (V i) 1) (num 0)], [], [no (le (num l) (V i)), eq (rem (V i) 2) (num 0)]⟩
def over (i : Nat) (l h : Int) : Cas := ⟨[le (num l) (V i), no (le (V i) (num h)), le (V i) (num 16777214), eq (and (V i) 1) (num 0)], [], [le (num l) (V i), no (le (V i) (num h)), eq (rem (V i) 2) (num 0)]⟩
def offset (i : Nat) (l h : Int) : List Cas := [fits i l h, under i l, over i l h]
def load (m low : Int) : List Cas := [mult 5 m low, odd 5 4095 low, far 5 4095 m low]
def loadSp : List Cas := [mult 5 1020 3, odd 5 4095 3, ⟨[le (num 0) (V 5), le (V 5) (num 4095), eq (and (V 5) 3) (num 0), no (le (V 5) (num 1020))], [], [eq (rem (V 5) 4) (num 0), no (le (V 5) (num 1020))]⟩]
def hiNoSp : List Cas := [lit 3 8, lit 3 9, lit 3 10, lit 3 11, lit 3 12, lit 3 14]
def loads (m low : Int) (sp : List Cas) : List Cas :=
  prod [zs [1, 7], [lit 6 2], R 2, R 3, R 4, zs [5]] ++ prod [zs [1, 7, 4], [lit 6 1], [hi 2]] ++ prod [zs [1, 7, 4], [lit 6 1], [lo 2], [lo 3], load m low] ++ prod [zs [1, 7, 4], [lit 6 1], [lo 2], [lit 3 13], sp] ++ prod [zs [1, 7, 4], [lit 6 1], [lo 2], hiNoSp]
def places : List Cas :=
  prod [zs [1, 3, 4, 7], [lit 6 1], R 2, [mult 5 1020 3, told [no (le (num 0) (V 5))], told [le (num 0) (V 5), no (le (V 5) (num 1020))],
    ⟨[le (num 0) (V 5), le (V 5) (num 1020), no (eq (and (V 5) 3) (num 0))], [], [le (num 0) (V 5), le (V 5) (num 1020), no (eq (rem (V 5) 4) (num 0))]⟩]]
def reg3 : List Cas := prod [zs [1, 7], [lit 6 2], R 2, R 3, R 4, zs [5]]
def imm0 : List Cas := prod [zs [1, 7, 4], [lit 6 1]]
def reg0 : List Cas := prod [zs [1, 7, 5], [lit 6 2]]

/-- The cases of an operation. -/
def cN : Nat → List Cas
  | 5 | 7 => reg3 ++ prod [imm0, R 2, R 3, [lo 5, mid 5 7 255, above 5 255]]
  | 9 => reg0 ++ prod [imm0, R 2, R 3, [lit 5 0, told [no (eq (V 5) (num 0))]]]
  | 10 => prod [zs [1, 3, 7], [lit 6 2], [tru 8, fls 8], R 2, R 4, zs [5]] ++ prod [zs [1, 3, 4, 7], [lit 6 1], R 2, [msk 5 255, above 5 255]]
  | 11 => prod [zs [1, 3, 7], [lit 6 2], R 2, R 4, zs [5]] ++ imm0
  | 12 => prod [zs [1, 2, 7], [lit 6 2], R 3, R 4, zs [5]] ++ prod [zs [1, 2, 4, 7], [lit 6 1], R 3, [msk 5 255, above 5 255]]
  | 13 | 14 => prod [zs [1, 2, 7], [lit 6 2], R 3, R 4, zs [5]] ++ imm0
  | 15 => reg0 ++ imm0
  | 16 => reg3 ++ prod [imm0, R 2, R 3, [msk 5 31]]
  | 17 | 18 => reg3 ++ prod [imm0, R 2, R 3, [msk 5 31, lit 5 32]]
  | 19 => reg3 ++ imm0
  | 20 => reg3
  | 21 | 22 => reg0
  | 23 | 24 => imm0
  | 25 | 28 => loads 124 3 loadSp
  | 26 | 29 => prod [reg3] ++ prod [imm0, [hi 2]] ++ prod [imm0, [lo 2], [lo 3], [msk 5 31, ⟨[le (num 0) (V 5), le (V 5) (num 4095), no (le (V 5) (num 31))], [], [no (le (quo (V 5) 1) (num 31))]⟩]] ++ prod [imm0, [lo 2], lit 3 13 :: hiNoSp]
  | 27 | 30 => loads 62 1 [⟨[], [], []⟩]
  | 31 | 32 => prod [zs [1, 2, 4, 5, 6], R 3, [msk 7 255, told [no (eq (V 7) (and (V 7) 255))]]]
  | 33 => prod [zs [1, 2, 3, 4, 5, 6], [⟨[le (num 0) (V 7), le (V 7) (num 16639), eq (and (V 7) 16128) (num 0)], [(7, false, and (V 7) 16639)], []⟩, told [no (eq (and (V 7) 16128) (num 0))]]]
  | 34 => prod [zs [1, 2, 3, 4, 5, 6], [⟨[le (num 0) (V 7), le (V 7) (num 33023), eq (and (V 7) 32512) (num 0)], [(7, false, and (V 7) 33023)], []⟩, told [no (eq (and (V 7) 32512) (num 0))]]]
  | 35 => prod [zs [2, 3, 4, 7], [lit 6 1], [lit 1 14], offset 5 (-2048) 2046] ++ prod [zs [2, 3, 4, 7], [lit 6 1], [⟨[le (num 0) (V 1), le (V 1) (num 13)], [(1, false, and (V 1) 15)], [no (eq (and (V 1) 15) (num 14))]⟩], offset 5 (-256) 254]
  | 36 => prod [zs [1, 2, 3, 4, 7], [lit 6 1]]
  | 37 | 38 => prod [zs [1, 2, 4, 7], [lit 6 1], [lo 3], [fits 5 0 126]]
  | 39 => prod [zs [1, 2, 3, 5, 7], [lit 6 2], [msk 4 15]]
  | 40 | 41 => places
  | 42 => prod [zs [2, 3, 4, 7], [lit 6 1], [msk 1 15], [msk 5 15]]
  | 43 => zs [1, 2, 3, 4, 5, 6, 7]
  | 44 => prod [zs [1, 2, 3, 4, 7], [lit 6 1], [msk 5 255]]
  | 45 => reg0
  | _ => reg3 ++ imm0

def casesN (k : Nat) : List Cas := refused k :: cN k
end Cb
end
end Go.Sx

/- The cases of an instruction for its two halfwords. -/
namespace Go.Sx
noncomputable section
namespace Cb
/-- A number is told by twelve bits: a sign. -/
def fnd (t : Tm) : Tm := .app 911 (.cons (.op1 (.conv .u32) t) .nil)
def all32 : List Tm := [le (num 0) (V 5), le (V 5) (num 4294967295)]
def found : Cas := ⟨all32 ++ [fnd (V 5)], [], [fnd (V 5)]⟩
def lost : Cas := ⟨all32 ++ [no (fnd (V 5))], [], [no (fnd (V 5))]⟩
def lostLow : Cas := ⟨[le (num 0) (V 5), le (V 5) (num 4095), no (fnd (V 5))], [(5, false, and (V 5) 4095)], [no (fnd (and (V 5) 4095))]⟩
def lostHigh : Cas := ⟨[no (le (V 5) (num 4095)), le (num 0) (V 5), le (V 5) (num 4294967295), no (fnd (V 5))], [], [no (le (V 5) (num 4095)), no (fnd (V 5))]⟩
def b15 (i : Nat) : List Cas := [msk i 15]
/-- an offset of a kind, in both halfwords; half: the kind's half -/
def half (a : Tm) : Tm := .op2 (.shr .i64) a (.num 1)
def even5 : Tm := eq (and (V 5) 1) (num 0)
def fitsW (h : Int) : Cas := ⟨[le (num (-(2 * h))) (V 5), le (V 5) (num (2 * h - 2)), even5], [], [even5, le (num (-h)) (half (V 5)), lt (half (V 5)) (num h)]⟩
def underW (h : Int) : Cas := ⟨[no (le (num (-(2 * h))) (V 5)), le (num (-16777216)) (V 5), even5], [], [even5, no (le (num (-h)) (half (V 5)))]⟩
def overW (h : Int) : Cas := ⟨[no (le (V 5) (num (2 * h - 2))), le (V 5) (num 16777214), le (num (-16777216)) (V 5), even5], [], [even5, le (num (-h)) (half (V 5)), no (lt (half (V 5)) (num h))]⟩
def regW : List Cas := prod [zs [1, 7], [lit 6 2], b15 2, b15 3, b15 4, zs [5]]
def immW (rs : List (List Cas)) (l : List Cas) : List Cas := prod ([zs [1, 7, 4], [lit 6 1]] ++ rs ++ [l])

/-- The cases that do not ask for a number's twelve bits; those where there are such. -/
def cW : Nat → List Cas
  | 5 | 7 => regW ++ immW [b15 2, b15 3, [tru 8, fls 8]] [lostLow, lostHigh]
  | 10 | 11 => prod [zs [1, 3, 7], [lit 6 2], b15 2, b15 4, zs [5]] ++ immW [zs [3], b15 2] [lost]
  | 12 | 13 | 14 | 15 => prod [zs [1, 2, 7], [lit 6 2], b15 3, b15 4, zs [5]] ++ immW [zs [2], b15 3] [lost]
  | 16 | 19 => regW ++ immW [b15 2, b15 3] [msk 5 31]
  | 17 | 18 => regW ++ immW [b15 2, b15 3] [msk 5 31, lit 5 32]
  | 20 | 21 | 22 => regW
  | 23 | 24 => immW [zs [3], b15 2] [msk 5 65535]
  | 25 | 26 | 27 | 28 | 29 | 30 => regW ++ immW [b15 2, b15 3] [msk 5 4095]
  | 31 | 32 => prod [zs [1, 2, 4, 5, 6], b15 3, [msk 7 65535]]
  | 33 | 34 => prod [zs [1, 2, 3, 4, 5, 6], [msk 7 65535]]
  | 35 => prod [zs [2, 3, 4, 7], [lit 6 1], [lit 1 14], [fitsW 8388608]] ++ prod [zs [2, 3, 4, 7], [lit 6 1], [⟨[le (num 0) (V 1), le (V 1) (num 13)], [(1, false, and (V 1) 15)], [no (eq (and (V 1) 15) (num 14))]⟩], [fitsW 524288, underW 524288, overW 524288]]
  | 36 => prod [zs [1, 2, 3, 4, 7], [lit 6 1], [fitsW 8388608]]
  | 40 | 41 => prod [zs [1, 3, 4, 7], [lit 6 1], b15 2, [msk 5 4095, ⟨[le (num (-4095)) (V 5), lt (V 5) (num 0)], [], [lt (V 5) (num 0)]⟩]]
  | 43 => zs [1, 2, 3, 4, 5, 6, 7]
  | 45 => prod [zs [1, 2, 5, 7], [lit 6 2], b15 3, b15 4]
  | 37 | 38 | 39 | 42 | 44 => [⟨[], [], []⟩]
  | _ => regW ++ immW [b15 2, b15 3] [lost]
def cF : Nat → List Cas
  | 10 | 11 => immW [zs [3], b15 2] [found]
  | 12 | 13 | 14 | 15 => immW [zs [2], b15 3] [found]
  | 1 | 2 | 3 | 4 | 5 | 6 | 7 | 8 | 9 => immW [b15 2, b15 3] [found]
  | _ => []
def casesW (k : Nat) : List (Bool × Cas) := (false, refused k) :: ((cW k).map fun c => (false, c)) ++ ((cF k).map fun c => (true, c))
end Cb
end
end Go.Sx
