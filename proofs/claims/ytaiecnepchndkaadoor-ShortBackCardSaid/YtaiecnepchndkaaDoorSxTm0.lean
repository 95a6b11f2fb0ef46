/- Symbolic scalar terms: what they denote. -/
import Derived.WalkKit
namespace Go.Sx

/-- A scalar. -/
inductive Sc where
  | int (n : Int)
  | bool (b : Bool)
  | str (s : List UInt8)
  | list (l : List Sc)

instance : Inhabited Sc := ⟨.int 0⟩

def Sc.asInt : Sc → Int | .int n => n | _ => 0
def Sc.asBool : Sc → Bool | .bool b => b | _ => false
def Sc.asStr : Sc → List UInt8 | .str s => s | _ => []
def Sc.asList : Sc → List Sc | .list l => l | _ => []

@[simp] theorem Sc.asInt_int (n : Int) : (Sc.int n).asInt = n := rfl
@[simp] theorem Sc.asBool_bool (b : Bool) : (Sc.bool b).asBool = b := rfl
@[simp] theorem Sc.asStr_str (s : List UInt8) : (Sc.str s).asStr = s := rfl
@[simp] theorem Sc.asList_list (l : List Sc) : (Sc.list l).asList = l := rfl

inductive Op1 where
  | conv (k : IntKind)
  | compl (k : IntKind)
  | not
  | slen
  | nth (i : Nat)
  deriving DecidableEq, Repr, Inhabited

inductive Op2 where
  | add (k : IntKind) | sub (k : IntKind) | mul (k : IntKind)
  | quo (k : IntKind) | rem
  | and (k : IntKind) | or (k : IntKind) | xor (k : IntKind) | andNot (k : IntKind)
  | shl (k : IntKind) | shr (k : IntKind)
  | eq | lt | le
  | beq | band | bor
  | seq | slt | cat | sidx | stake | sdrop
  deriving DecidableEq, Repr, Inhabited

/-- The model's own words for the operations on bits and shifts. -/
def bitsOp (k : IntKind) (f : BitVec k.bits → BitVec k.bits → BitVec k.bits) (x y : Int) : Int :=
  k.wrap (f (BitVec.ofInt k.bits x) (BitVec.ofInt k.bits y)).toNat
def shlOp (k : IntKind) (x y : Int) : Int := k.wrap (x * 2 ^ (min y.toNat k.bits))
def shrOp (k : IntKind) (x y : Int) : Int := x.fdiv (2 ^ (min y.toNat k.bits))
def complOp (k : IntKind) (n : Int) : Int := bitsOp k (fun a b => a ^^^ b) (if k.signed then -1 else k.max) n

def Op1.ev : Op1 → Sc → Sc
  | .conv k, x => .int (k.wrap x.asInt)
  | .compl k, x => .int (complOp k x.asInt)
  | .not, x => .bool (!x.asBool)
  | .slen, x => .int x.asStr.length
  | .nth i, x => x.asList.getD i (.int 0)

def Op2.ev : Op2 → Sc → Sc → Sc
  | .add k, x, y => .int (k.wrap (x.asInt + y.asInt))
  | .sub k, x, y => .int (k.wrap (x.asInt - y.asInt))
  | .mul k, x, y => .int (k.wrap (x.asInt * y.asInt))
  | .quo k, x, y => .int (k.wrap (x.asInt.tdiv y.asInt))
  | .rem, x, y => .int (x.asInt.tmod y.asInt)
  | .and k, x, y => .int (bitsOp k (fun a b => a &&& b) x.asInt y.asInt)
  | .or k, x, y => .int (bitsOp k (fun a b => a ||| b) x.asInt y.asInt)
  | .xor k, x, y => .int (bitsOp k (fun a b => a ^^^ b) x.asInt y.asInt)
  | .andNot k, x, y => .int (bitsOp k (fun a b => a &&& ~~~b) x.asInt y.asInt)
  | .shl k, x, y => .int (shlOp k x.asInt y.asInt)
  | .shr k, x, y => .int (shrOp k x.asInt y.asInt)
  | .eq, x, y => .bool (x.asInt == y.asInt)
  | .lt, x, y => .bool (decide (x.asInt < y.asInt))
  | .le, x, y => .bool (decide (x.asInt ≤ y.asInt))
  | .beq, x, y => .bool (x.asBool == y.asBool)
  | .band, x, y => .bool (x.asBool && y.asBool)
  | .bor, x, y => .bool (x.asBool || y.asBool)
  | .seq, x, y => .bool (x.asStr == y.asStr)
  | .slt, x, y => .bool (Op.bytesLess x.asStr y.asStr)
  | .cat, x, y => .str (x.asStr ++ y.asStr)
  | .sidx, x, y => .int ((x.asStr.getD y.asInt.toNat 0).toNat)
  | .stake, x, y => .str (x.asStr.take y.asInt.toNat)
  | .sdrop, x, y => .str (x.asStr.drop y.asInt.toNat)

inductive Tm where
  | var (i : Nat)
  | num (n : Int)
  | bit (b : Bool)
  | text (s : List UInt8)
  | op1 (o : Op1) (a : Tm)
  | op2 (o : Op2) (a b : Tm)
  | ite (c a b : Tm)
  | nil
  | cons (a b : Tm)
  | app (g : Nat) (a : Tm)
  deriving DecidableEq, Inhabited, Repr

/-- What the variables and the function signs stand for. -/
structure Env where
  v : Nat → Sc
  f : Nat → List Sc → Sc
  val : Nat → Value

def Tm.den (ρ : Env) : Tm → Sc
  | .var i => ρ.v i
  | .num n => .int n
  | .bit b => .bool b
  | .text s => .str s
  | .op1 o a => o.ev (a.den ρ)
  | .op2 o a b => o.ev (a.den ρ) (b.den ρ)
  | .ite c a b => match (c.den ρ).asBool with | true => a.den ρ | false => b.den ρ
  | .nil => .list []
  | .cons a b => .list (a.den ρ :: (b.den ρ).asList)
  | .app g a => ρ.f g (a.den ρ).asList

def Tm.int (ρ : Env) (t : Tm) : Int := (t.den ρ).asInt
def Tm.bool (ρ : Env) (t : Tm) : Bool := (t.den ρ).asBool
def Tm.str (ρ : Env) (t : Tm) : List UInt8 := (t.den ρ).asStr

/-! ### Literals -/

def Tm.lit? : Tm → Option Sc
  | .num n => some (.int n)
  | .bit b => some (.bool b)
  | .text s => some (.str s)
  | _ => none

def Sc.quote? : Sc → Option Tm
  | .int n => some (.num n)
  | .bool b => some (.bit b)
  | .str s => some (.text s)
  | .list _ => none

theorem Tm.lit?_den {t : Tm} {s : Sc} (ρ : Env) (h : t.lit? = some s) : t.den ρ = s := by
  cases t <;> simp [Tm.lit?] at h <;> subst h <;> rfl

theorem Sc.quote?_den {s : Sc} {t : Tm} (ρ : Env) (h : s.quote? = some t) : t.den ρ = s := by
  cases s <;> simp [Sc.quote?] at h <;> subst h <;> rfl

end Go.Sx
