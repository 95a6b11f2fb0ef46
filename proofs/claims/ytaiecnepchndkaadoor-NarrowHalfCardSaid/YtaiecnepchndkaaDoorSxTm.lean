/- Symbolic scalar terms: what they denote, and constructors that fold literals. -/
import Derived.WalkKit
namespace Go.Sx

/-- A scalar. -/
inductive Sc where
  | int (n : Int)
  | bool (b : Bool)
  | str (s : List UInt8)
  | list (l : List Sc)

instance : Inhabited Sc := ⟨.int 0⟩

def Sc.asInt : Sc → Int | .int n => n | _ => 0
def Sc.asBool : Sc → Bool | .bool b => b | _ => false
def Sc.asStr : Sc → List UInt8 | .str s => s | _ => []
def Sc.asList : Sc → List Sc | .list l => l | _ => []

@[simp] theorem Sc.asInt_int (n : Int) : (Sc.int n).asInt = n := rfl
@[simp] theorem Sc.asBool_bool (b : Bool) : (Sc.bool b).asBool = b := rfl
@[simp] theorem Sc.asStr_str (s : List UInt8) : (Sc.str s).asStr = s := rfl
@[simp] theorem Sc.asList_list (l : List Sc) : (Sc.list l).asList = l := rfl

inductive Op1 where
  | conv (k : IntKind)
  | compl (k : IntKind)
  | not
  | slen
  | nth (i : Nat)
  deriving DecidableEq, Repr, Inhabited

inductive Op2 where
  | add (k : IntKind) | sub (k : IntKind) | mul (k : IntKind)
  | quo (k : IntKind) | rem
  | and (k : IntKind) | or (k : IntKind) | xor (k : IntKind) | andNot (k : IntKind)
  | shl (k : IntKind) | shr (k : IntKind)
  | eq | lt | le
  | beq | band | bor
  | seq | slt | cat | sidx | stake | sdrop
  deriving DecidableEq, Repr, Inhabited

/-- The model's own words for the operations on bits and shifts. -/
def bitsOp (k : IntKind) (f : BitVec k.bits → BitVec k.bits → BitVec k.bits) (x y : Int) : Int :=
  k.wrap (f (BitVec.ofInt k.bits x) (BitVec.ofInt k.bits y)).toNat
def shlOp (k : IntKind) (x y : Int) : Int := k.wrap (x * 2 ^ (min y.toNat k.bits))
def shrOp (k : IntKind) (x y : Int) : Int := x.fdiv (2 ^ (min y.toNat k.bits))
def complOp (k : IntKind) (n : Int) : Int := bitsOp k (fun a b => a ^^^ b) (if k.signed then -1 else k.max) n

def Op1.ev : Op1 → Sc → Sc
  | .conv k, x => .int (k.wrap x.asInt)
  | .compl k, x => .int (complOp k x.asInt)
  | .not, x => .bool (!x.asBool)
  | .slen, x => .int x.asStr.length
  | .nth i, x => x.asList.getD i (.int 0)

def Op2.ev : Op2 → Sc → Sc → Sc
  | .add k, x, y => .int (k.wrap (x.asInt + y.asInt))
  | .sub k, x, y => .int (k.wrap (x.asInt - y.asInt))
  | .mul k, x, y => .int (k.wrap (x.asInt * y.asInt))
  | .quo k, x, y => .int (k.wrap (x.asInt.tdiv y.asInt))
  | .rem, x, y => .int (x.asInt.tmod y.asInt)
  | .and k, x, y => .int (bitsOp k (fun a b => a &&& b) x.asInt y.asInt)
  | .or k, x, y => .int (bitsOp k (fun a b => a ||| b) x.asInt y.asInt)
  | .xor k, x, y => .int (bitsOp k (fun a b => a ^^^ b) x.asInt y.asInt)
  | .andNot k, x, y => .int (bitsOp k (fun a b => a &&& ~~~b) x.asInt y.asInt)
  | .shl k, x, y => .int (shlOp k x.asInt y.asInt)
  | .shr k, x, y => .int (shrOp k x.asInt y.asInt)
  | .eq, x, y => .bool (x.asInt == y.asInt)
  | .lt, x, y => .bool (decide (x.asInt < y.asInt))
  | .le, x, y => .bool (decide (x.asInt ≤ y.asInt))
  | .beq, x, y => .bool (x.asBool == y.asBool)
  | .band, x, y => .bool (x.asBool && y.asBool)
  | .bor, x, y => .bool (x.asBool || y.asBool)
  | .seq, x, y => .bool (x.asStr == y.asStr)
  | .slt, x, y => .bool (Op.bytesLess x.asStr y.asStr)
  | .cat, x, y => .str (x.asStr ++ y.asStr)
  | .sidx, x, y => .int ((x.asStr.getD y.asInt.toNat 0).toNat)
  | .stake, x, y => .str (x.asStr.take y.asInt.toNat)
  | .sdrop, x, y => .str (x.asStr.drop y.asInt.toNat)

inductive Tm where
  | var (i : Nat)
  | num (n : Int)
  | bit (b : Bool)
  | text (s : List UInt8)
  | op1 (o : Op1) (a : Tm)
  | op2 (o : Op2) (a b : Tm)
  | ite (c a b : Tm)
  | nil
  | cons (a b : Tm)
  | app (g : Nat) (a : Tm)
  deriving DecidableEq, Inhabited, Repr

/-- What the variables and the function signs stand for. -/
structure Env where
  v : Nat → Sc
  f : Nat → List Sc → Sc
  val : Nat → Value

def Tm.den (ρ : Env) : Tm → Sc
  | .var i => ρ.v i
  | .num n => .int n
  | .bit b => .bool b
  | .text s => .str s
  | .op1 o a => o.ev (a.den ρ)
  | .op2 o a b => o.ev (a.den ρ) (b.den ρ)
  | .ite c a b => match (c.den ρ).asBool with | true => a.den ρ | false => b.den ρ
  | .nil => .list []
  | .cons a b => .list (a.den ρ :: (b.den ρ).asList)
  | .app g a => ρ.f g (a.den ρ).asList

def Tm.int (ρ : Env) (t : Tm) : Int := (t.den ρ).asInt
def Tm.bool (ρ : Env) (t : Tm) : Bool := (t.den ρ).asBool
def Tm.str (ρ : Env) (t : Tm) : List UInt8 := (t.den ρ).asStr

/-! ### Literals -/

def Tm.lit? : Tm → Option Sc
  | .num n => some (.int n)
  | .bit b => some (.bool b)
  | .text s => some (.str s)
  | _ => none

def Sc.quote? : Sc → Option Tm
  | .int n => some (.num n)
  | .bool b => some (.bit b)
  | .str s => some (.text s)
  | .list _ => none

theorem Tm.lit?_den {t : Tm} {s : Sc} (ρ : Env) (h : t.lit? = some s) : t.den ρ = s := by
  cases t <;> simp [Tm.lit?] at h <;> subst h <;> rfl

theorem Sc.quote?_den {s : Sc} {t : Tm} (ρ : Env) (h : s.quote? = some t) : t.den ρ = s := by
  cases s <;> simp [Sc.quote?] at h <;> subst h <;> rfl

def mk1 (o : Op1) (a : Tm) : Tm :=
  match a.lit? with
  | some x => ((o.ev x).quote?).getD (.op1 o a)
  | none =>
    match o, a with
    | .not, .op1 .not b => .op1 .not (.op1 .not b)
    | _, _ => .op1 o a

theorem mk1_den (ρ : Env) (o : Op1) (a : Tm) : (mk1 o a).den ρ = o.ev (a.den ρ) := by
  unfold mk1
  split
  · rename_i x hx
    rw [Tm.lit?_den ρ hx]
    cases h : (o.ev x).quote? with
    | none => simp [Tm.den, Tm.lit?_den ρ hx]
    | some t => simpa using Sc.quote?_den ρ h
  · split <;> rfl

/-- Terms that are the same need not be looked at. -/
def same2 (o : Op2) : Option Bool :=
  match o with
  | .eq => some true
  | .le => some true
  | .lt => some false
  | .beq => some true
  | .seq => some true
  | _ => none

theorem same2_ev {o : Op2} {b : Bool} (h : same2 o = some b) (x : Sc) : o.ev x x = .bool b := by
  cases o <;> simp [same2] at h <;> subst h <;> simp [Op2.ev]

def mk2 (o : Op2) (a b : Tm) : Tm :=
  match a.lit?, b.lit? with
  | some x, some y => ((o.ev x y).quote?).getD (.op2 o a b)
  | _, _ =>
    match same2 o with
    | some r => if a = b then .bit r else .op2 o a b
    | none => .op2 o a b

theorem mk2_den (ρ : Env) (o : Op2) (a b : Tm) : (mk2 o a b).den ρ = o.ev (a.den ρ) (b.den ρ) := by
  unfold mk2
  split
  · rename_i x y hx hy
    rw [Tm.lit?_den ρ hx, Tm.lit?_den ρ hy]
    cases h : (o.ev x y).quote? with
    | none => simp [Tm.den, Tm.lit?_den ρ hx, Tm.lit?_den ρ hy]
    | some t => simpa using Sc.quote?_den ρ h
  · split
    · rename_i r hr
      split
      · rename_i e; subst e; simp [Tm.den, same2_ev hr]
      · rfl
    · rfl

/-- A choice between two terms. -/
def mkIte (c a b : Tm) : Tm :=
  match c with
  | .bit true => a
  | .bit false => b
  | _ => if a = b then a else .ite c a b

theorem mkIte_den (ρ : Env) (c a b : Tm) : (mkIte c a b).den ρ = (match (c.den ρ).asBool with | true => a.den ρ | false => b.den ρ) := by
  unfold mkIte
  split
  · rfl
  · rfl
  · split
    · rename_i e; subst e; split <;> rfl
    · rfl

def mkNot (a : Tm) : Tm :=
  match a with
  | .bit b => .bit (!b)
  | .op1 .not b => b
  | _ => .op1 .not a

theorem mkNot_den (ρ : Env) (a : Tm) : ((mkNot a).den ρ).asBool = !(a.den ρ).asBool := by
  unfold mkNot
  split <;> simp [Tm.den, Op1.ev]

def mkAnd (a b : Tm) : Tm :=
  match a, b with
  | .bit true, b => b
  | .bit false, _ => .bit false
  | a, .bit true => a
  | _, .bit false => .bit false
  | a, b => if a = b then a else .op2 .band a b

theorem mkAnd_den (ρ : Env) (a b : Tm) : ((mkAnd a b).den ρ).asBool = ((a.den ρ).asBool && (b.den ρ).asBool) := by
  unfold mkAnd
  split
  · simp [Tm.den]
  · simp [Tm.den]
  · simp [Tm.den]
  · simp [Tm.den]
  · split
    · rename_i e; subst e; simp
    · simp [Tm.den, Op2.ev]

def mkOr (a b : Tm) : Tm :=
  match a, b with
  | .bit false, b => b
  | .bit true, _ => .bit true
  | a, .bit false => a
  | _, .bit true => .bit true
  | a, b => if a = b then a else .op2 .bor a b

theorem mkOr_den (ρ : Env) (a b : Tm) : ((mkOr a b).den ρ).asBool = ((a.den ρ).asBool || (b.den ρ).asBool) := by
  unfold mkOr
  split
  · simp [Tm.den]
  · simp [Tm.den]
  · simp [Tm.den]
  · simp [Tm.den]
  · split
    · rename_i e; subst e; simp
    · simp [Tm.den, Op2.ev]

/-- A choice between two truths. -/
def mkIteB (c a b : Tm) : Tm :=
  match c with
  | .bit true => a
  | .bit false => b
  | _ =>
    if a = b then a
    else match a, b with
      | .bit true, b => mkOr c b
      | .bit false, b => mkAnd (mkNot c) b
      | a, .bit false => mkAnd c a
      | a, .bit true => mkOr (mkNot c) a
      | a, b => .ite c a b

theorem mkIteB_den (ρ : Env) (c a b : Tm) : ((mkIteB c a b).den ρ).asBool = (match (c.den ρ).asBool with | true => (a.den ρ).asBool | false => (b.den ρ).asBool) := by
  unfold mkIteB
  split
  · rfl
  · rfl
  · split
    · rename_i e; subst e; split <;> rfl
    · split
      · rw [mkOr_den]; cases (c.den ρ).asBool <;> simp [Tm.den]
      · rw [mkAnd_den, mkNot_den]; cases (c.den ρ).asBool <;> simp [Tm.den]
      · rw [mkAnd_den]; cases (c.den ρ).asBool <;> simp [Tm.den]
      · rw [mkOr_den, mkNot_den]; cases (c.den ρ).asBool <;> simp [Tm.den]
      · simp only [Tm.den]; split <;> rfl

/-- Does a truth that holds say that 'c' is 'w'? -/
def saysPlain (c : Tm) (w : Bool) (t : Tm) : Bool :=
  match w with
  | true => decide (t = c)
  | false => decide (t = .op1 .not c) || decide (c = .op1 .not t)

theorem saysPlain_den (ρ : Env) (c : Tm) (w : Bool) (t : Tm) (h : saysPlain c w t = true) (ht : (t.den ρ).asBool = true) : (c.den ρ).asBool = w := by
  unfold saysPlain at h
  split at h
  · simp only [decide_eq_true_eq] at h; subst h; exact ht
  · simp only [Bool.or_eq_true, decide_eq_true_eq] at h
    rcases h with h | h
    · subst h; simpa [Tm.den, Op1.ev] using ht
    · subst h; simp [Tm.den, Op1.ev, ht]

def saysIt (c : Tm) (w : Bool) : Tm → Bool
  | .op2 o a b => saysPlain c w (.op2 o a b) || (decide (o = .band) && (saysIt c w a || saysIt c w b))
  | t => saysPlain c w t

theorem saysIt_den (ρ : Env) (c : Tm) (w : Bool) : ∀ g : Tm, saysIt c w g = true → (g.den ρ).asBool = true → (c.den ρ).asBool = w := by
  intro g
  induction g with
  | op2 o a b iha ihb =>
    intro h hg
    unfold saysIt at h
    simp only [Bool.or_eq_true, Bool.and_eq_true, decide_eq_true_eq] at h
    rcases h with h | ⟨ho, h⟩
    · exact saysPlain_den ρ c w _ h hg
    · subst ho
      simp only [Tm.den, Op2.ev, Sc.asBool_bool, Bool.and_eq_true] at hg
      rcases h with h | h
      · exact iha h hg.1
      · exact ihb h hg.2
  | _ => intro h hg; exact saysPlain_den ρ c w _ (by simpa [saysIt] using h) hg

end Go.Sx
