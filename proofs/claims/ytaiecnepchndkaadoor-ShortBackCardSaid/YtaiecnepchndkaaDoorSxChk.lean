/- Whether an instruction may be, as a term. -/
import Derived.Test.YtaiecnepchndkaaDoorSxPx
namespace Go.Sx
namespace Chk
def x (i : Nat) : Tm := .var i
def all : List Tm → Tm
  | [] => .bit true
  | [a] => a
  | a :: r => .op2 .band a (all r)
def or (a b : Tm) : Tm := .op2 .bor a b
def is (a : Tm) (n : Int) : Tm := .op2 .eq a (.num n)
def ge (a : Tm) (n : Int) : Tm := .op2 .le (.num n) a
def le (a : Tm) (n : Int) : Tm := .op2 .le a (.num n)
def no (a : Tm) : Tm := .op1 .not a
def inn (a : Tm) (m n : Int) : Tm := .op2 .band (ge a m) (le a n)
def plain (a : Tm) : Tm := or (inn a 0 12) (is a 14)
def op : Tm := x 0
def cond : Tm := x 1
def rd : Tm := x 2
def rn : Tm := x 3
def rm : Tm := x 4
def imm : Tm := x 5
def mode : Tm := x 6
def lst : Tm := x 7
def s : Tm := x 8
def zero (l : List Tm) : List Tm := l.map fun a => is a 0
def last (m n : Int) : Tm := .ite (is mode 2) (all [is imm 0, plain rm]) (all [is mode 1, is rm 0, inn imm m n])
def great : Int := 4294967295
/-- the sign of 'how many bits' -/
def popS : Nat := 900
def regsIn (mask : Int) : List Tm := [.op2 .lt (.num 0) lst, is (.op2 (.andNot .i64) lst (.num mask)) 0]
def even : Tm := is (.op2 (.and .i64) imm (.num 1)) 0
def ok : Tm :=
  .ite (le op 9) (all (zero [cond, lst] ++ [plain rd, plain rn, last 0 great])) <|
  .ite (all [is op 10, is mode 2, no s]) (all (zero [cond, lst, rn, imm] ++ [inn rd 0 14, inn rm 0 14])) <|
  .ite (le op 11) (all (zero [cond, lst, rn] ++ [plain rd, last 0 great])) <|
  .ite (le op 15) (all (zero [cond, lst, rd] ++ [no s, plain rn, last 0 great])) <|
  .ite (le op 19) (all (zero [cond, lst] ++ [plain rd, plain rn, .ite (or (is op 17) (is op 18)) (last 1 32) (last 1 31)])) <|
  .ite (le op 22) (all (zero [cond, lst, imm] ++ [no s, plain rd, plain rn, is mode 2, plain rm])) <|
  .ite (le op 24) (all (zero [cond, lst, rn, rm] ++ [no s, plain rd, is mode 1, inn imm 0 65535])) <|
  .ite (le op 30) (all (zero [cond, lst] ++ [no s, plain rd, or (plain rn) (is rn 13), last 0 4095])) <|
  .ite (le op 32) (all (zero [cond, rd, rm, imm, mode] ++ [no s, plain rn] ++ regsIn 0x5FFF ++ [.op2 .le (.num 2) (.app popS (.cons lst .nil)), is (.op2 (.and .i64) (.op2 (.shr .i64) lst rn) (.num 1)) 0])) <|
  .ite (is op 33) (all (zero [cond, rd, rn, rm, imm, mode] ++ [no s] ++ regsIn 0x5FFF)) <|
  .ite (is op 34) (all (zero [cond, rd, rn, rm, imm, mode] ++ [no s] ++ regsIn 0xDFFF ++ [no (is (.op2 (.and .i64) (.op2 (.shr .i64) lst (.num 14)) (.num 3)) 3)])) <|
  .ite (is op 35) (all (zero [rd, rn, rm, lst] ++ [no s, inn cond 0 14, is mode 1, inn imm (-16777216) 16777214, even])) <|
  .ite (is op 36) (all (zero [cond, rd, rn, rm, lst] ++ [no s, is mode 1, inn imm (-16777216) 16777214, even])) <|
  .ite (le op 38) (all (zero [cond, rd, rm, lst] ++ [no s, inn rn 0 7, is mode 1, inn imm 0 126, even])) <|
  .ite (is op 39) (all (zero [cond, rd, rn, imm, lst] ++ [no s, is mode 2, inn rm 0 14])) <|
  .ite (le op 41) (all (zero [cond, rn, rm, lst] ++ [no s, plain rd, is mode 1, inn imm (-4095) 4095])) <|
  .ite (is op 42) (all (zero [rd, rn, rm, lst] ++ [no s, is mode 1, inn cond 0 14, inn imm 1 15, or (no (is cond 14)) (or (is imm 1) (or (is imm 2) (or (is imm 4) (is imm 8))))])) <|
  .ite (is op 43) (all (zero [cond, rd, rn, rm, imm, mode, lst] ++ [no s])) <|
  .ite (is op 44) (all (zero [cond, rd, rn, rm, lst] ++ [no s, is mode 1, inn imm 0 255])) <|
  all (zero [cond, rd, imm, lst] ++ [no s, is mode 2, plain rn, plain rm])
/-- The error's number. -/
def chk : Tm := .ite (all [inn op 1 45, ok]) (.num 0) (.num 6)
end Chk
end Go.Sx
