/- Terms looked at bit by bit, with cases where they are needed: the evaluator. -/
import Derived.Test.YtnpfihlaocpcfaaGreatDoorSxExec
namespace Go.Sx
noncomputable section

/-- A bit: a known one, or a variable's, or the contrary of that. -/
inductive Lit where
  | c (b : Bool)
  | v (x i : Nat) (n : Bool)
  deriving DecidableEq, Inhabited, Repr

def Lit.neg : Lit → Lit
  | .c b => .c (!b)
  | .v x i n => .v x i (!n)

/-- What is known of a whole number: its range, what it is not, its known bits (of 64). -/
structure Rng where
  lo : Int
  hi : Int
  ne : List Int
  km : Nat
  kv : Nat
  deriving Inhabited, Repr

def Rng.all : Rng := ⟨-9223372036854775808, 9223372036854775807, [], 0, 0⟩

structure Kn where
  rs : List (Nat × Rng)
  bs : List (Nat × Bool)
  ls : List (Nat × Nat × Lit)
  cs : List (List Lit × Nat × Nat)
  /-- variables that are numbers -/
  ik : List Nat
  deriving Inhabited, Repr

def findR : List (Nat × Rng) → Nat → Rng
  | [], _ => .all
  | (y, r) :: l, x => match Nat.beq x y with | true => r | false => findR l x

def setR : List (Nat × Rng) → Nat → Rng → List (Nat × Rng)
  | [], x, r => [(x, r)]
  | (y, q) :: l, x, r => match Nat.beq x y with | true => (y, r) :: l | false => (y, q) :: setR l x r

def bitOf (m i : Nat) : Bool := Nat.beq (Nat.land (Nat.shiftRight m i) 1) 1

/-- How many bits a number of a range has, but for its sign. -/
def natLen (n : Nat) : Nat := match n with | 0 => 0 | n + 1 => Nat.log2 (n + 1) + 1
def intLen : Int → Nat
  | .ofNat n => natLen n
  | .negSucc n => natLen n
def Rng.len (r : Rng) : Nat := max (intLen r.lo) (intLen r.hi)

def findL : List (Nat × Nat × Lit) → Nat → Nat → Option Lit
  | [], _, _ => none
  | (y, j, t) :: l, x, i => match Nat.beq x y && Nat.beq i j with | true => some t | false => findL l x i

def Lit.flip (n : Bool) (t : Lit) : Lit := match n with | true => t.neg | false => t

/-- A bit, as it is known. -/
def resL (e : Kn) : Nat → Lit → Lit
  | 0, t => t
  | _, .c b => .c b
  | k + 1, .v x i n =>
    let r := findR e.rs x
    match bitOf r.km i with
    | true => .c (bitOf r.kv i != n)
    | false =>
      let i' := match Nat.ble r.len i with | true => 63 | false => i
      match bitOf r.km i' with
      | true => .c (bitOf r.kv i' != n)
      | false => match e.ls with
        | [] => .v x i' n
        | ls => match findL ls x i' with
          | some t => (resL e k t).flip n
          | none => .v x i' n

inductive V where
  | num (n : Int)
  | bit (b : Bool)
  | raw (x : Nat)
  | msk (x m : Nat)
  | wd (l : List Lit) (t : Lit)
  | cnt (l : List Lit)
  | top
  deriving DecidableEq, Inhabited, Repr

abbrev Wd := List Lit × Lit

def natBits : Nat → Nat → List Lit
  | 0, _ => []
  | k + 1, n => .c (bitOf n 0) :: natBits k (Nat.shiftRight n 1)

def numW : Int → Wd
  | .ofNat n => (natBits (natLen n) n, .c false)
  | .negSucc n => ((natBits (natLen n) n).map Lit.neg, .c true)

def rawBits (e : Kn) (x : Nat) : Nat → Nat → List Lit
  | 0, _ => []
  | k + 1, i => resL e 4 (.v x i false) :: rawBits e x k (i + 1)

def mskBits (e : Kn) (x m : Nat) : Nat → Nat → List Lit
  | 0, _ => []
  | k + 1, i => (match bitOf m i with | true => resL e 4 (.v x i false) | false => .c false) :: mskBits e x m k (i + 1)

def toW (e : Kn) : V → Option Wd
  | .num n => some (numW n)
  | .raw x => some (rawBits e x (findR e.rs x).len 0, resL e 4 (.v x 63 false))
  | .msk x m => some (mskBits e x m (natLen m) 0, .c false)
  | .wd l t => some (l.map (resL e 4), resL e 4 t)
  | _ => none

/-- The number of a word all of whose bits are known. -/
def constL : List Lit → Bool → Option Int
  | [], b => some (match b with | true => -1 | false => 0)
  | .c a :: l, b => match constL l b with
    | some n => some (2 * n + (match a with | true => 1 | false => 0))
    | none => none
  | .v _ _ _ :: _, _ => none

def mkW (w : Wd) : V :=
  match w.2 with
  | .c b => match constL w.1 b with
    | some n => .num n
    | none => .wd w.1 w.2
  | t => .wd w.1 t

/-- A question. -/
inductive Sp where
  | lit (x i : Nat)
  | eqn (x i : Nat) (t : Lit)
  | le (x : Nat) (c : Int)
  | pt (x : Nat) (c : Int)
  | bl (x : Nat)
  | cnt (l : List Lit) (c : Nat)
  deriving Inhabited, Repr

inductive Ask (α : Type) where
  | ok (a : α)
  | ask (s : Sp)
  | fail
  deriving Inhabited

/-! ### What a question's answers say -/

def ones64 : Nat := 18446744073709551615

/-- The bits of 64 from one on. -/
def highs (k : Nat) : Nat := Nat.shiftLeft (Nat.shiftRight ones64 k) k

/-- A range's bits. -/
def Rng.tight (r : Rng) : Rng :=
  match r.lo, r.hi with
  | .ofNat _, .ofNat h => { r with km := Nat.lor r.km (highs (natLen h)) }
  | .negSucc l, .negSucc _ => { r with km := Nat.lor r.km (highs (natLen l)), kv := Nat.lor r.kv (highs (natLen l)) }
  | _, _ => r

def low64 (c : Int) : Nat := (c % 18446744073709551616).toNat

def setBit (r : Rng) (i : Nat) (b : Bool) : Rng :=
  match Nat.blt i 64 with
  | false => r
  | true =>
  let r' := { r with km := Nat.lor r.km (Nat.pow 2 i), kv := match b with | true => Nat.lor r.kv (Nat.pow 2 i) | false => r.kv }
  match Nat.beq i 63 with
  | true => (match b with
    | true => { r' with hi := min r'.hi (-1) }
    | false => { r' with lo := max r'.lo 0 })
  | false => r'

/-- The bits of some that are ones; those that are not known. -/
def ones : List Lit → Nat
  | [] => 0
  | .c true :: l => ones l + 1
  | _ :: l => ones l
def opens : List Lit → List Lit
  | [] => []
  | .c _ :: l => opens l
  | t :: l => t :: opens l

/-- How many of some bits that are not known are ones: at least, at most. -/
def findC (e : Kn) : List (List Lit × Nat × Nat) → List Lit → Nat × Nat
  | [], l => (0, l.length)
  | (k, a, b) :: r, l =>
    let k' := k.map (resL e 4)
    if opens k' = l then (a - ones k', b - ones k') else findC e r l

def Kn.tell (e : Kn) : Sp → Bool → Kn
  | .lit x i, b => { e with rs := setR e.rs x (setBit (findR e.rs x) i b) }
  | .eqn x i t, true => { e with ls := (x, i, t) :: e.ls }
  | .eqn x i t, false => { e with ls := (x, i, t.neg) :: e.ls }
  | .le x c, true => { e with rs := setR e.rs x (let r := findR e.rs x; { r with hi := min r.hi c }) }
  | .le x c, false => { e with rs := setR e.rs x (let r := findR e.rs x; { r with lo := max r.lo (c + 1) }) }
  | .pt x c, true => { e with rs := setR e.rs x (let r := findR e.rs x; { r with lo := c, hi := c, km := ones64, kv := low64 c }) }
  | .pt x c, false => { e with rs := setR e.rs x (let r := findR e.rs x
      match decide (r.lo = c) with
      | true => { r with lo := c + 1 }
      | false => match decide (r.hi = c) with
        | true => { r with hi := c - 1 }
        | false => { r with ne := c :: r.ne }) }
  | .bl x, b => { e with bs := (x, b) :: e.bs }
  | .cnt l c, true => { e with cs := (l, (findC e e.cs l).1, min (findC e e.cs l).2 c) :: e.cs }
  | .cnt l c, false => { e with cs := (l, max (findC e e.cs l).1 (c + 1), (findC e e.cs l).2) :: e.cs }

/-! ### Operations -/

def Ask.bind {α β : Type} : Ask α → (α → Ask β) → Ask β
  | .ok a, f => f a
  | .ask s, _ => .ask s
  | .fail, _ => .fail

/-- The question for a bit. -/
def askL {α : Type} : Lit → Ask α
  | .v x i _ => .ask (.lit x i)
  | .c _ => .fail

inductive BOp where | and | or | xor
  deriving DecidableEq, Inhabited, Repr

def litOp : BOp → Lit → Lit → Option Lit
  | .and, .c false, _ => some (.c false)
  | .and, .c true, b => some b
  | .and, _, .c false => some (.c false)
  | .and, a, .c true => some a
  | .and, a, b => if a = b then some a else if a = b.neg then some (.c false) else none
  | .or, .c true, _ => some (.c true)
  | .or, .c false, b => some b
  | .or, _, .c true => some (.c true)
  | .or, a, .c false => some a
  | .or, a, b => if a = b then some a else if a = b.neg then some (.c true) else none
  | .xor, .c b, a => some (a.flip b)
  | .xor, a, .c b => some (a.flip b)
  | .xor, a, b => if a = b then some (.c false) else if a = b.neg then some (.c true) else none

def zipB (o : BOp) (ta : Lit) : List Lit → Ask (List Lit)
  | [] => .ok []
  | b :: lb => match litOp o ta b with
    | some t => (zipB o ta lb).bind fun l => .ok (t :: l)
    | none => askL b

def zipOp (o : BOp) (ta tb : Lit) : List Lit → List Lit → Ask (List Lit)
  | [], lb => zipB o ta lb
  | a :: la, [] => match litOp o a tb with
    | some t => (zipOp o ta tb la []).bind fun l => .ok (t :: l)
    | none => askL a
  | a :: la, b :: lb => match litOp o a b with
    | some t => (zipOp o ta tb la lb).bind fun l => .ok (t :: l)
    | none => askL b

def fitW (k : IntKind) (w : Wd) : Bool :=
  match k.signed with
  | true => Nat.blt w.1.length k.bits
  | false => Nat.ble w.1.length k.bits && decide (w.2 = .c false)

def wordOp (o : BOp) (k : IntKind) (a b : Wd) : Ask V :=
  match fitW k a && fitW k b with
  | false => .fail
  | true => match litOp o a.2 b.2 with
    | none => askL a.2
    | some t => (zipOp o a.2 b.2 a.1 b.1).bind fun l => .ok (mkW (l, t))

def extL (t : Lit) : Nat → List Lit → List Lit
  | 0, _ => []
  | k + 1, [] => t :: extL t k []
  | k + 1, a :: l => a :: extL t k l

/-- A word in so many bits. -/
def wrapW (k : IntKind) (w : Wd) : Wd :=
  match fitW k w with
  | true => w
  | false =>
    match k.signed with
    | true => let l := extL w.2 k.bits w.1; (l.take (k.bits - 1), l.getD (k.bits - 1) (.c false))
    | false => (extL w.2 k.bits w.1, .c false)

/-- The sum of three bits: its bit, what is carried. -/
def add3 (a b c : Lit) : Option (Lit × Lit) :=
  match a, b, c with
  | .c a, .c b, .c c => some (.c (a != (b != c)), .c (a && b || c && (a || b)))
  | .c a, .c b, t | .c a, t, .c b | t, .c a, .c b => some (t.flip (a != b), match a, b with | false, false => .c false | true, true => .c true | _, _ => t)
  | .c a, s, t | s, .c a, t | s, t, .c a => if s = t then some (.c a, s) else if s = t.neg then some (.c (!a), .c a) else none
  | _, _, _ => none

def askOne {α : Type} (a b c : Lit) : Ask α :=
  match a, b, c with
  | _, _, .v x i _ => .ask (.lit x i)
  | _, .v x i _, _ => .ask (.lit x i)
  | .v x i _, _, _ => .ask (.lit x i)
  | _, _, _ => .fail

def addB (ta tb : Lit) : List Lit → Lit → Ask Wd
  | [], c => match add3 ta tb c with
    | some (s, d) => match add3 ta tb d with
      | some (s', _) => .ok ([s], s')
      | none => askOne ta tb d
    | none => askOne ta tb c
  | b :: lb, c => match add3 ta b c with
    | some (s, d) => (addB ta tb lb d).bind fun w => .ok (s :: w.1, w.2)
    | none => askOne ta b c

def addL (ta tb : Lit) : List Lit → List Lit → Lit → Ask Wd
  | [], lb, c => addB ta tb lb c
  | a :: la, [], c => match add3 a tb c with
    | some (s, d) => (addL ta tb la [] d).bind fun w => .ok (s :: w.1, w.2)
    | none => askOne a tb c
  | a :: la, b :: lb, c => match add3 a b c with
    | some (s, d) => (addL ta tb la lb d).bind fun w => .ok (s :: w.1, w.2)
    | none => askOne a b c

def twoPow? (n : Int) : Option Nat :=
  match n with
  | .ofNat n => match Nat.beq (Nat.pow 2 (Nat.log2 n)) n with | true => some (Nat.log2 n) | false => none
  | .negSucc _ => none

def lit?V (e : Kn) : V → Ask Nat
  | .num (.ofNat n) => .ok n
  | .num (.negSucc _) => .fail
  | v => match toW e v with
    | some (l, t) => match mkW (l, t) with
      | .num (.ofNat n) => .ok n
      | _ => match l.find? (fun | .v _ _ _ => true | _ => false) with
        | some b => askL b
        | none => askL t
    | none => .fail

def zerosL : Nat → List Lit → List Lit
  | 0, l => l
  | k + 1, l => .c false :: zerosL k l

def shlV (e : Kn) (k : IntKind) (a : V) (n : Nat) : Ask V :=
  match toW e a with
  | some (l, t) => match Nat.ble k.bits n with
    | true => .fail
    | false => .ok (mkW (wrapW k (zerosL n l, t)))
  | none => .fail

def shrV (e : Kn) (k : IntKind) (a : V) (n : Nat) : Ask V :=
  match Nat.ble k.bits n with
  | true => .fail
  | false => match toW e a with
    | some (l, t) => .ok (mkW (l.drop n, t))
    | none => .fail

/-- A pair of bits: if they are not the same, that; else on, with the first question. -/
def pairQ (a b : Lit) (q : Option Sp) (k : Option Sp → Ask Bool) : Ask Bool :=
  match a, b with
  | .c a, .c b => if a = b then k q else .ok false
  | .c _, .v x i _ => k (q.or (some (.lit x i)))
  | .v x i _, .c _ => k (q.or (some (.lit x i)))
  | .v x i n, .v y j m =>
    match Nat.beq x y && Nat.beq i j with
    | true => if n = m then k q else .ok false
    | false => k (q.or (some (.eqn x i ((Lit.v y j m).flip n))))

def eqB (ta tb : Lit) : List Lit → Option Sp → Ask Bool
  | [], q => pairQ ta tb q fun q => match q with | none => .ok true | some s => .ask s
  | b :: lb, q => pairQ ta b q fun q => eqB ta tb lb q

/-- Two words' bits: is there a pair that is not the same? else the first one that is not known. -/
def eqL (ta tb : Lit) : List Lit → List Lit → Option Sp → Ask Bool
  | [], lb, q => eqB ta tb lb q
  | a :: la, [], q => pairQ a tb q fun q => eqL ta tb la [] q
  | a :: la, b :: lb, q => pairQ a b q fun q => eqL ta tb la lb q

def eqRaw (e : Kn) (x : Nat) (c : Int) : Ask Bool :=
  let r := findR e.rs x
  match decide (c < r.lo) || decide (r.hi < c) with
  | true => .ok false
  | false => match decide (r.lo = r.hi) with
    | true => .ok true
    | false => match r.ne.contains c with
      | true => .ok false
      | false => match Nat.beq (Nat.land (Nat.xor r.kv (low64 c)) r.km) 0 with
        | false => .ok false
        | true => match Nat.beq r.km ones64 && (decide (-9223372036854775808 ≤ c) && decide (c ≤ 9223372036854775807)) with
          | true => .ok true
          | false => .ask (.pt x c)

def eqMsk (e : Kn) (x m : Nat) (c : Int) : Ask Bool :=
  match c with
  | .negSucc _ => .ok false
  | .ofNat c =>
    match Nat.beq (Nat.land c m) c with
    | false => .ok false
    | true =>
      let r := findR e.rs x
      match Nat.beq (Nat.land (Nat.land (Nat.xor r.kv c) r.km) m) 0 with
      | false => .ok false
      | true => match Nat.land m (Nat.xor ones64 r.km) with
        | 0 => .ok true
        | u + 1 => .ask (.lit x (Nat.log2 (u + 1)))

def eqWords (e : Kn) (a b : V) : Ask Bool :=
  match toW e a, toW e b with
  | some (la, ta), some (lb, tb) => eqL ta tb la lb none
  | _, _ => .fail

def eqV (e : Kn) (a b : V) : Ask Bool :=
  match a, b with
  | .num m, .num n => .ok (decide (m = n))
  | .raw x, .num c => eqRaw e x c
  | .num c, .raw x => eqRaw e x c
  | .msk x m, .num c => match e.ls with | [] => eqMsk e x m c | _ => eqWords e (.msk x m) (.num c)
  | .num c, .msk x m => match e.ls with | [] => eqMsk e x m c | _ => eqWords e (.msk x m) (.num c)
  | .raw x, .raw y => match Nat.beq x y with | true => .ok true | false => eqWords e (.raw x) (.raw y)
  | a, b => eqWords e a b

def boundL (u : Bool) : List Lit → Lit → Int
  | [], t => match t with | .c true => -1 | _ => 0
  | .c b :: l, t => 2 * boundL u l t + (match b with | true => 1 | false => 0)
  | .v _ _ _ :: l, t => 2 * boundL u l t + (match u with | true => 1 | false => 0)

def topUnknown : List Lit → Option Lit → Option Lit
  | [], q => q
  | .v x i n :: l, _ => topUnknown l (some (.v x i n))
  | .c _ :: l, q => topUnknown l q

/-- Is a value at most a number? -/
def leV (e : Kn) (a : V) (c : Int) : Ask Bool :=
  match a with
  | .num n => .ok (decide (n ≤ c))
  | .raw x =>
    let r := findR e.rs x
    match decide (r.hi ≤ c) with
    | true => .ok true
    | false => match decide (c < r.lo) with
      | true => .ok false
      | false => match e.ls with
        | [] => .ask (.le x c)
        | _ => match rawBits e x r.len 0, resL e 4 (.v x 63 false) with
          | l, .c b => match decide (boundL true l (.c b) ≤ c) with
            | true => .ok true
            | false => match decide (c < boundL false l (.c b)) with
              | true => .ok false
              | false => .ask (.le x c)
          | _, _ => .ask (.le x c)
  | .cnt l =>
    let l' := l.map (resL e 4)
    let o := opens l'
    match c - ones l' with
    | .negSucc _ => .ok false
    | .ofNat c =>
      let r := findC e e.cs o
      match Nat.ble r.2 c with
      | true => .ok true
      | false => match Nat.blt c r.1 with
        | true => .ok false
        | false => match c, o with
          | 0, t :: _ => askL t
          | c, o => .ask (.cnt o c)
  | a => match toW e a with
    | some (l, .c b) =>
      match decide (boundL true l (.c b) ≤ c) with
      | true => .ok true
      | false => match decide (c < boundL false l (.c b)) with
        | true => .ok false
        | false => match topUnknown l none with
          | some t => askL t
          | none => .fail
    | some (_, t) => askL t
    | none => .fail

def notA (a : Ask Bool) : Ask Bool := a.bind fun b => .ok (!b)

def isNum : V → Option Int
  | .num n => some n
  | _ => none

def bitV (o : BOp) (k : IntKind) (e : Kn) (a b : V) : Ask V :=
  match toW e a, toW e b with
  | some x, some y => wordOp o k x y
  | _, _ => .fail

def smallMask (n : Int) : Option Nat :=
  match n with
  | .ofNat n => match Nat.blt n 9223372036854775808 with | true => some n | false => none
  | .negSucc _ => none

def andV (k : IntKind) (e : Kn) (a b : V) : Ask V :=
  match k, a, b with
  | .i64, .msk x m, .num n => match smallMask n with
    | some n => .ok (.msk x (Nat.land m n))
    | none => bitV .and .i64 e (.msk x m) (.num n)
  | .i64, .raw x, .num n => match smallMask n with
    | some n => .ok (.msk x n)
    | none => bitV .and .i64 e (.raw x) (.num n)
  | k, a, b => bitV .and k e a b

def truthV (e : Kn) : V → Ask Bool
  | .bit b => .ok b
  | .raw x => match e.bs.lookup x with
    | some b => .ok b
    | none => .ask (.bl x)
  | _ => .fail

def o2 (o : Op2) (a b : V) (e : Kn) : Ask V :=
  match o with
  | .add k => match a, b with
    | .num x, .num y => .ok (.num (k.wrap (x + y)))
    | _, _ => match toW e a, toW e b with
      | some (la, ta), some (lb, tb) => (addL ta tb la lb (.c false)).bind fun w => .ok (mkW (wrapW k w))
      | _, _ => .fail
  | .sub k => match a, b with
    | .num x, .num y => .ok (.num (k.wrap (x - y)))
    | _, _ => match toW e a, toW e b with
      | some (la, ta), some (lb, tb) => (addL ta tb.neg la (lb.map Lit.neg) (.c true)).bind fun w => .ok (mkW (wrapW k w))
      | _, _ => .fail
  | .mul k => match a, b with
    | .num x, .num y => .ok (.num (k.wrap (x * y)))
    | a, .num y => match twoPow? y with
      | some n => shlV e k a n
      | none => .fail
    | .num y, b => match twoPow? y with
      | some n => shlV e k b n
      | none => .fail
    | _, _ => .fail
  | .quo k => match a, b with
    | .num x, .num y => .ok (.num (k.wrap (x.tdiv y)))
    | a, .num y => match twoPow? y, toW e a with
      | some n, some (l, t) => match t with
        | .c false => match fitW k (l, t) with
          | true => .ok (mkW (l.drop n, .c false))
          | false => .fail
        | .c true => .fail
        | t => askL t
      | _, _ => .fail
    | _, _ => .fail
  | .rem => match a, b with
    | .num x, .num y => .ok (.num (x.tmod y))
    | a, .num y => match twoPow? y, toW e a with
      | some n, some (l, t) => match t with
        | .c false => .ok (mkW (l.take n, .c false))
        | .c true => match n, l with
          | 1, b :: _ => .ok (mkW ([b], b))
          | _, _ => .fail
        | t => askL t
      | _, _ => .fail
    | _, _ => .fail
  | .and k => andV k e a b
  | .or k => bitV .or k e a b
  | .xor k => bitV .xor k e a b
  | .andNot k => match toW e a, toW e b with
    | some x, some y => match k.signed with
      | true => wordOp .and k x (y.1.map Lit.neg, y.2.neg)
      | false => match fitW k x && fitW k y with
        | true => wordOp .and k x ((extL y.2 k.bits y.1).map Lit.neg, .c false)
        | false => .fail
    | _, _ => .fail
  | .shl k => (lit?V e b).bind fun n => shlV e k a n
  | .shr k => (lit?V e b).bind fun n => shrV e k a n
  | .eq => (eqV e a b).bind fun r => .ok (.bit r)
  | .le => (match isNum a, isNum b with
    | some x, some y => Ask.ok (decide (x ≤ y))
    | none, some y => leV e a y
    | some x, none => notA (leV e b (x - 1))
    | none, none => Ask.fail).bind fun r => .ok (.bit r)
  | .lt => (match isNum a, isNum b with
    | some x, some y => Ask.ok (decide (x < y))
    | none, some y => leV e a (y - 1)
    | some x, none => notA (leV e b x)
    | none, none => Ask.fail).bind fun r => .ok (.bit r)
  | .beq => (truthV e a).bind fun x => (truthV e b).bind fun y => .ok (.bit (x == y))
  | _ => .fail

def o1 (o : Op1) (a : V) (e : Kn) : Ask V :=
  match o with
  | .conv k => match a with
    | .num n => .ok (.num (k.wrap n))
    | .raw x =>
      let r := findR e.rs x
      match decide (0 ≤ r.lo) && Nat.blt (intLen r.hi) k.bits && e.ik.contains x with
      | true => .ok (.raw x)
      | false => match toW e (.raw x) with
        | some w => .ok (mkW (wrapW k w))
        | none => .fail
    | a => match toW e a with
      | some w => .ok (mkW (wrapW k w))
      | none => .fail
  | .not => (truthV e a).bind fun b => .ok (.bit (!b))
  | _ => .fail

/-- Two bits that are the same are known to be others. -/
def badL (e : Kn) : List (Nat × Nat × Lit) → Bool
  | [] => false
  | (x, i, t) :: l =>
    (let r := findR e.rs x
     match bitOf r.km i, resL e 4 t with
     | true, .c b => b != bitOf r.kv i
     | _, _ => false) || badL e l

/-- A range beside its bits. -/
def Rng.bad (r : Rng) : Bool :=
  match r.lo, r.hi with
  | .ofNat l, .ofNat h => Nat.blt h r.kv || Nat.blt (Nat.lor r.kv (Nat.xor ones64 r.km)) l || Nat.blt h l
  | .negSucc l, .negSucc h => Nat.blt (Nat.sub ones64 h) r.kv || Nat.blt (Nat.lor r.kv (Nat.xor ones64 r.km)) (Nat.sub ones64 l) || Nat.blt l h
  | _, _ => false

def Sp.var : Sp → Option Nat
  | .lit x _ | .le x _ | .pt x _ => some x
  | _ => none

def Kn.bad (e : Kn) (s : Sp) : Bool :=
  (match s.var with
  | some x => (findR e.rs x).bad
  | none => false) ||
  match e.ls with
  | [] => false
  | ls => badL e ls

def Kn.tight (e : Kn) (s : Sp) : Kn :=
  match s.var with
  | some x => { e with rs := setR e.rs x (findR e.rs x).tight }
  | none => e

/-- Questions until there is an answer. -/
def drive {α : Type} : Nat → Kn → (Kn → Ask α) → (Option α → Kn → Bool) → Bool
  | 0, e, _, k => k none e
  | n + 1, e, f, k => match f e with
    | .ok a => k (some a) e
    | .fail => k none e
    | .ask s =>
      (match (e.tell s true).bad s with
      | true => true
      | false => drive n ((e.tell s true).tight s) f k) &&
      (match (e.tell s false).bad s with
      | true => true
      | false => drive n ((e.tell s false).tight s) f k)

def orTop : Option V → V
  | some v => v
  | none => .top

/-- Signs that are known: by their definitions, or as variables. -/
structure Sg where
  defs : Nat → Option Tm
  ufs : List (Nat × List Nat × Nat)
  pop : Nat

/-- Is anything known of a sign? -/
def Sg.knows (sg : Sg) (g : Nat) : Bool := match sg.defs g with
  | some _ => true
  | none => Nat.beq g sg.pop || sg.ufs.any fun u => Nat.beq u.1 g

abbrev KV := V → Kn → Bool

/-- A word without the bits at its end that are as its top. -/
def trimL (t : Lit) : List Lit → List Lit
  | [] => []
  | a :: l => match trimL t l with
    | [] => if a = t then [] else [a]
    | b :: r => a :: b :: r

def rawOf (e : Kn) (v : V) : Option Nat :=
  match v with
  | .raw x => some x
  | v => match toW e v with
    | some (l, t) => match l with
      | .v x 0 false :: _ => match toW e (.raw x) with
        | some w => if (trimL w.2 w.1, w.2) = (trimL t l, t) then some x else none
        | none => none
      | _ => none
    | none => none

def rawsOf (e : Kn) : List V → Option (List Nat)
  | [] => some []
  | v :: r => match rawOf e v, rawsOf e r with
    | some x, some l => some (x :: l)
    | _, _ => none

def findU : List (Nat × List Nat × Nat) → Nat → List Nat → Option Nat
  | [], _, _ => none
  | (h, l, y) :: r, g, xs => if h = g ∧ l = xs then some y else findU r g xs

def locV (σ : Option (List V)) (i : Nat) : V :=
  match σ with
  | none => .raw i
  | some l => l.getD i .top

def isList : Tm → Bool
  | .nil => true
  | .cons _ r => isList r
  | _ => false

/-- Are a sign's arguments looked at? -/
def Sg.looks (sg : Sg) (g : Nat) (a : Tm) : Bool := match sg.knows g with
  | true => isList a
  | false => false

section
variable (sg : Sg) (rec : Nat → List V → Kn → KV → Bool)

def ev (σ : Option (List V)) : Tm → Kn → KV → Bool
  | .var i, e, k => k (locV σ i) e
  | .num n, e, k => k (.num n) e
  | .bit b, e, k => k (.bit b) e
  | .op1 o a, e, k => ev σ a e fun v e => drive 100 e (o1 o v) fun r e => k (orTop r) e
  | .op2 .band a b, e, k => ev σ a e fun v e => drive 100 e (fun e => truthV e v) fun r e => match r with
    | some true => ev σ b e fun u e => drive 100 e (fun e => truthV e u) fun r e => match r with
      | some b => k (.bit b) e
      | none => k .top e
    | some false => k (.bit false) e
    | none => k .top e
  | .op2 .bor a b, e, k => ev σ a e fun v e => drive 100 e (fun e => truthV e v) fun r e => match r with
    | some false => ev σ b e fun u e => drive 100 e (fun e => truthV e u) fun r e => match r with
      | some b => k (.bit b) e
      | none => k .top e
    | some true => k (.bit true) e
    | none => k .top e
  | .op2 o a b, e, k => ev σ a e fun v e => ev σ b e fun u e => drive 100 e (o2 o v u) fun r e => k (orTop r) e
  | .ite c a b, e, k => ev σ c e fun v e => drive 100 e (fun e => truthV e v) fun r e => match r with
    | some true => ev σ a e k
    | some false => ev σ b e k
    | none => k .top e
  | .app g a, e, k => match sg.looks g a with
    | false => k .top e
    | true => evA σ a e fun vs e =>
      match sg.defs g with
      | some _ => rec g vs e k
      | none => match Nat.beq g sg.pop, vs with
        | true, [v] => match toW e v with
          | some (l, .c false) => match Nat.ble l.length 64 with
            | true => k (.cnt l) e
            | false => k .top e
          | _ => k .top e
        | _, vs => match rawsOf e vs with
          | some xs => match findU sg.ufs g xs with
            | some y => k (.raw y) e
            | none => k .top e
          | none => k .top e
  | _, e, k => k .top e
where evA (σ : Option (List V)) : Tm → Kn → (List V → Kn → Bool) → Bool
  | .cons a r, e, k => ev σ a e fun v e => evA σ r e fun l e => k (v :: l) e
  | _, e, k => k [] e
end

/-- So many signs deep. -/
def evN (sg : Sg) : Nat → Nat → List V → Kn → KV → Bool
  | 0 => fun _ _ e k => k .top e
  | n + 1 => fun g vs e k => match sg.defs g with
    | some t => ev sg (evN sg n) (some vs) t e k
    | none => k .top e

/-- A truth holds wherever what is known holds. -/
def pxT (sg : Sg) (t : Tm) (e : Kn) (k : Kn → Bool) : Bool :=
  ev sg (evN sg 5) none t e fun v e => drive 100 e (fun e => truthV e v) fun r e => match r with
    | some true => k e
    | _ => false

/-- A tree has an answer, and this is true. -/
def pxTree (sg : Sg) : Tree Res → Kn → Bool
  | .leaf x, e => match x.v with
    | .bool t => pxT sg t e fun _ => true
    | _ => false
  | .ite c a b, e => ev sg (evN sg 5) none c e fun v e => drive 100 e (fun e => truthV e v) fun r e => match r with
    | some true => pxTree sg a e
    | some false => pxTree sg b e
    | none => false
  | .assert c t, e => pxT sg c e (fun _ => true) && pxTree sg t e
  | .fail _, _ => false

end
end Go.Sx
