/- For the seat: texts joined: SxVal. -/
import Derived.Test.YtiicniiecomhjaaDoorJSxKb
/- Symbolic scalar terms: constructors that fold literals. -/
namespace Go.Sx

def mk1 (o : Op1) (a : Tm) : Tm :=
  match a.lit? with
  | some x => ((o.ev x).quote?).getD (.op1 o a)
  | none =>
    match o, a with
    | .not, .op1 .not b => .op1 .not (.op1 .not b)
    | o, a => foldN (.op1 o a)

theorem mk1_den (ρ : Env) (o : Op1) (a : Tm) : (mk1 o a).den ρ = o.ev (a.den ρ) := by
  unfold mk1
  split
  · rename_i x hx
    rw [Tm.lit?_den ρ hx]
    cases h : (o.ev x).quote? with
    | none => simp [Tm.den, Tm.lit?_den ρ hx]
    | some t => simpa using Sc.quote?_den ρ h
  · split
    · rfl
    · exact foldN_den ρ _

/-- Terms that are the same need not be looked at. -/
def same2 (o : Op2) : Option Bool :=
  match o with
  | .eq => some true
  | .le => some true
  | .lt => some false
  | .beq => some true
  | .seq => some true
  | _ => none

theorem same2_ev {o : Op2} {b : Bool} (h : same2 o = some b) (x : Sc) : o.ev x x = .bool b := by
  cases o <;> simp [same2] at h <;> subst h <;> simp [Op2.ev]

def mk2 (o : Op2) (a b : Tm) : Tm :=
  match a.lit?, b.lit? with
  | some x, some y => ((o.ev x y).quote?).getD (.op2 o a b)
  | _, _ =>
    match same2 o with
    | some r => if a = b then .bit r else fold2 o a b
    | none => fold2 o a b

theorem mk2_den (ρ : Env) (o : Op2) (a b : Tm) : (mk2 o a b).den ρ = o.ev (a.den ρ) (b.den ρ) := by
  unfold mk2
  split
  · rename_i x y hx hy
    rw [Tm.lit?_den ρ hx, Tm.lit?_den ρ hy]
    cases h : (o.ev x y).quote? with
    | none => simp [Tm.den, Tm.lit?_den ρ hx, Tm.lit?_den ρ hy]
    | some t => simpa using Sc.quote?_den ρ h
  · split
    · rename_i r hr
      split
      · rename_i e; subst e; simp [Tm.den, same2_ev hr]
      · exact fold2_den ρ o a b
    · exact fold2_den ρ o a b

/-- A number of 63 bits that is a power of two. -/
def pow63 (n : Nat) : Option Nat := match Nat.beq (Nat.pow 2 (Nat.log2 n)) n && Nat.blt (Nat.log2 n) 63 with | true => some (Nat.log2 n) | false => none

/-- A choice by a bit between a power of two, or its contrary, and 0. -/
def iteNum (c : Tm) (p : Int) : Tm :=
  match c with
  | .op2 .eq (.op2 (.and k) y (.num 1)) (.num 1) => match p with
    | .ofNat p => match pow63 p with
      | some i => .op2 (.shl .i64) (.op1 (.conv .i64) (.op2 (.and k) y (.num 1))) (.num (.ofNat i))
      | none => .ite c (.num p) (.num 0)
    | .negSucc q => match pow63 (q + 1) with
      | some i => .op2 (.sub .i64) (.num 0) (.op2 (.shl .i64) (.op1 (.conv .i64) (.op2 (.and k) y (.num 1))) (.num (.ofNat i)))
      | none => .ite c (.num (.negSucc q)) (.num 0)
  | c => .ite c (.num p) (.num 0)

/-- A choice between a sum and what it began with. -/
def iteSum (c a b : Tm) : Tm :=
  match a with
  | .op2 (.add .i64) v (.num p) => match in64 b with
    | true => if v = b then .op2 (.add .i64) b (iteNum c p) else .ite c a b
    | false => .ite c a b
  | .num p => match b with
    | .num 0 => iteNum c p
    | _ => .ite c a b
  | _ => .ite c a b

/-- A choice between two terms. -/
def mkIte (c a b : Tm) : Tm :=
  match c with
  | .bit true => a
  | .bit false => b
  | _ => if a = b then a else iteSum c a b

theorem and_one (k : IntKind) (x : Int) : bitsOp k (fun a b => a &&& b) x 1 = 0 ∨ bitsOp k (fun a b => a &&& b) x 1 = 1 := by
  have hb := bitsOp_has k (fun a b => a &&& b) x 1
  have bit : ∀ i, i < k.bits → bitI (bitsOp k (fun a b => a &&& b) x 1) i = (bitI x i && bitI 1 i) := fun i hi => bitsOp_bit k _ (· && ·) (by intro a b i _; simp) x 1 i hi
  have b1 : ∀ i, bitI 1 i = decide (i = 0) := by
    intro i
    have := bitI_nat 1 i
    rw [show ((1 : Nat) : Int) = 1 from rfl] at this
    rw [this]
    by_cases h : i = 0
    · subst h; rfl
    · rw [decide_eq_false h]
      cases hb : Nat.testBit 1 i
      · rfl
      · exact (h (Nat.testBit_one_eq_true_iff_self_eq_zero.1 hb)).elim
  cases hx : bitI x 0
  · left
    refine eq_of_has hb (by cases k <;> simp [kHas, IntKind.signed, IntKind.bits]) fun i hi => ?_
    rw [bit i hi, b1]
    have z : bitI 0 i = false := by have := bitI_nat 0 i; rw [show ((0 : Nat) : Int) = 0 from rfl] at this; rw [this]; exact Nat.zero_testBit i
    rw [z]
    by_cases h0 : i = 0
    · subst h0; simp [hx]
    · simp [h0]
  · right
    refine eq_of_has hb (by cases k <;> simp [kHas, IntKind.signed, IntKind.bits]) fun i hi => ?_
    rw [bit i hi, b1]
    by_cases h0 : i = 0
    · subst h0; simp [hx]
    · simp [h0]

theorem pow63_eq {n c : Nat} (h : pow63 n = some c) : n = 2 ^ c ∧ c < 63 := by
  unfold pow63 at h
  split at h
  · rename_i hh
    simp only [Bool.and_eq_true] at hh
    simp only [Option.some.injEq] at h; subst h
    exact ⟨(Nat.eq_of_beq_eq_true hh.1).symm, blt_lt hh.2⟩
  · cases h

theorem wrap_small {n : Int} (h1 : -2 ^ 63 ≤ n) (h2 : n < 2 ^ 63) : IntKind.i64.wrap n = n := wrap_eq (k := .i64) ⟨h1, h2⟩ (fun _ _ => rfl)

theorem shl_bit_den (ρ : Env) (k : IntKind) (y : Tm) {i : Nat} (hi : i < 63) :
    ((Tm.op2 (.shl .i64) (.op1 (.conv .i64) (.op2 (.and k) y (.num 1))) (.num (.ofNat i))).den ρ) = .int (match (Tm.op2 .eq (.op2 (.and k) y (.num 1)) (.num 1)).den ρ |>.asBool with | true => 2 ^ i | false => 0) := by
  have hp : (0 : Int) < 2 ^ i := Int.pow_pos (by omega)
  have hp2 : (2 : Int) ^ i ≤ 2 ^ 62 := by exact_mod_cast Nat.pow_le_pow_right (n := 2) (by omega) (show i ≤ 62 by omega)
  have hm : min (Int.ofNat i).toNat IntKind.i64.bits = i := by show min i 64 = i; omega
  show Sc.int (IntKind.i64.wrap (IntKind.i64.wrap (bitsOp k (fun a b => a &&& b) (y.den ρ).asInt 1) * 2 ^ (min (Int.ofNat i).toNat IntKind.i64.bits))) = Sc.int (match (bitsOp k (fun a b => a &&& b) (y.den ρ).asInt 1 == 1) with | true => 2 ^ i | false => 0)
  rw [hm]
  congr 1
  rcases and_one k (y.den ρ).asInt with h | h <;> rw [h]
  · rw [wrap_small (n := 0) (by omega) (by omega), Int.zero_mul, wrap_small (by omega) (by omega)]; rfl
  · rw [wrap_small (n := 1) (by omega) (by omega), Int.one_mul, wrap_small (by omega) (by omega)]; rfl

theorem iteNum_den (ρ : Env) (c : Tm) (p : Int) : (iteNum c p).den ρ = (match (c.den ρ).asBool with | true => .int p | false => .int 0) := by
  unfold iteNum
  split
  · rename_i k y
    split
    · rename_i p
      split
      · rename_i i hi
        obtain ⟨rfl, hi'⟩ := pow63_eq hi
        rw [shl_bit_den ρ k y hi']
        have e : Int.ofNat (2 ^ i) = (2 : Int) ^ i := by simp
        rw [e]
        cases (Tm.den ρ (Tm.op2 .eq (.op2 (.and k) y (.num 1)) (.num 1))).asBool <;> rfl
      · simp only [Tm.den]; cases (Op2.eq.ev (Op2.ev (.and k) (y.den ρ) (.int 1)) (.int 1)).asBool <;> rfl
    · rename_i q
      split
      · rename_i i hi
        obtain ⟨hq, hi⟩ := pow63_eq hi
        have hp : (0 : Int) < 2 ^ i := Int.pow_pos (by omega)
        have hp2 : (2 : Int) ^ i ≤ 2 ^ 62 := by exact_mod_cast Nat.pow_le_pow_right (n := 2) (by omega) (show i ≤ 62 by omega)
        have e : Int.negSucc q = -(2 : Int) ^ i := by
          have : ((q + 1 : Nat) : Int) = 2 ^ i := by rw [hq]; simp
          rw [Int.negSucc_eq]; omega
        have := shl_bit_den ρ k y hi
        rw [show (Tm.op2 (.sub .i64) (.num 0) (.op2 (.shl .i64) (.op1 (.conv .i64) (.op2 (.and k) y (.num 1))) (.num (.ofNat i)))).den ρ = .int (IntKind.i64.wrap (0 - ((Tm.op2 (.shl .i64) (.op1 (.conv .i64) (.op2 (.and k) y (.num 1))) (.num (.ofNat i))).den ρ).asInt)) from rfl, this, e]
        cases (Tm.den ρ (Tm.op2 .eq (.op2 (.and k) y (.num 1)) (.num 1))).asBool
        · show Sc.int (IntKind.i64.wrap (0 - 0)) = Sc.int 0
          rw [wrap_small (by omega) (by omega)]; rfl
        · show Sc.int (IntKind.i64.wrap (0 - 2 ^ i)) = Sc.int (-2 ^ i)
          rw [wrap_small (by omega) (by omega)]; congr 1; omega
      · simp only [Tm.den]; cases (Op2.eq.ev (Op2.ev (.and k) (y.den ρ) (.int 1)) (.int 1)).asBool <;> rfl
  · simp only [Tm.den]; cases (c.den ρ).asBool <;> rfl

theorem iteSum_den (ρ : Env) (c a b : Tm) : (iteSum c a b).den ρ = (match (c.den ρ).asBool with | true => a.den ρ | false => b.den ρ) := by
  have plain : ∀ a b : Tm, (Tm.ite c a b).den ρ = (match (c.den ρ).asBool with | true => a.den ρ | false => b.den ρ) := by
    intro a b; simp only [Tm.den]; cases (c.den ρ).asBool <;> rfl
  unfold iteSum
  split
  · rename_i v p
    split
    · rename_i hb
      split
      · rename_i e
        subst e
        obtain ⟨h0, h1, h2⟩ := in64_ok ρ _ hb
        rw [show (Tm.op2 (.add .i64) v (iteNum c p)).den ρ = .int (IntKind.i64.wrap ((v.den ρ).asInt + ((iteNum c p).den ρ).asInt)) from rfl, iteNum_den]
        cases (c.den ρ).asBool
        · show Sc.int (IntKind.i64.wrap ((v.den ρ).asInt + 0)) = v.den ρ
          rw [Int.add_zero, wrap_small h1 h2]; exact h0.symm
        · rfl
      · exact plain _ _
    · exact plain _ _
  · rename_i p
    split
    · rw [iteNum_den]; cases (c.den ρ).asBool <;> rfl
    · exact plain _ _
  · exact plain _ _

theorem mkIte_den (ρ : Env) (c a b : Tm) : (mkIte c a b).den ρ = (match (c.den ρ).asBool with | true => a.den ρ | false => b.den ρ) := by
  unfold mkIte
  split
  · rfl
  · rfl
  · split
    · rename_i e; subst e; cases (c.den ρ).asBool <;> rfl
    · exact iteSum_den ρ c a b

def mkNot (a : Tm) : Tm :=
  match a with
  | .bit b => .bit (!b)
  | .op1 .not b => b
  | _ => .op1 .not a

theorem mkNot_den (ρ : Env) (a : Tm) : ((mkNot a).den ρ).asBool = !(a.den ρ).asBool := by
  unfold mkNot
  split <;> simp [Tm.den, Op1.ev]

def mkAnd (a b : Tm) : Tm :=
  match a, b with
  | .bit true, b => b
  | .bit false, _ => .bit false
  | a, .bit true => a
  | _, .bit false => .bit false
  | a, b => if a = b then a else .op2 .band a b

theorem mkAnd_den (ρ : Env) (a b : Tm) : ((mkAnd a b).den ρ).asBool = ((a.den ρ).asBool && (b.den ρ).asBool) := by
  unfold mkAnd
  split
  · simp [Tm.den]
  · simp [Tm.den]
  · simp [Tm.den]
  · simp [Tm.den]
  · split
    · rename_i e; subst e; simp
    · simp [Tm.den, Op2.ev]

def mkOr (a b : Tm) : Tm :=
  match a, b with
  | .bit false, b => b
  | .bit true, _ => .bit true
  | a, .bit false => a
  | _, .bit true => .bit true
  | a, b => if a = b then a else .op2 .bor a b

theorem mkOr_den (ρ : Env) (a b : Tm) : ((mkOr a b).den ρ).asBool = ((a.den ρ).asBool || (b.den ρ).asBool) := by
  unfold mkOr
  split
  · simp [Tm.den]
  · simp [Tm.den]
  · simp [Tm.den]
  · simp [Tm.den]
  · split
    · rename_i e; subst e; simp
    · simp [Tm.den, Op2.ev]

/-- A choice between two truths. -/
def mkIteB (c a b : Tm) : Tm :=
  match c with
  | .bit true => a
  | .bit false => b
  | _ =>
    if a = b then a
    else match a, b with
      | .bit true, b => mkOr c b
      | .bit false, b => mkAnd (mkNot c) b
      | a, .bit false => mkAnd c a
      | a, .bit true => mkOr (mkNot c) a
      | a, b => .ite c a b

theorem mkIteB_den (ρ : Env) (c a b : Tm) : ((mkIteB c a b).den ρ).asBool = (match (c.den ρ).asBool with | true => (a.den ρ).asBool | false => (b.den ρ).asBool) := by
  unfold mkIteB
  split
  · rfl
  · rfl
  · split
    · rename_i e; subst e; split <;> rfl
    · split
      · rw [mkOr_den]; cases (c.den ρ).asBool <;> simp [Tm.den]
      · rw [mkAnd_den, mkNot_den]; cases (c.den ρ).asBool <;> simp [Tm.den]
      · rw [mkAnd_den]; cases (c.den ρ).asBool <;> simp [Tm.den]
      · rw [mkOr_den, mkNot_den]; cases (c.den ρ).asBool <;> simp [Tm.den]
      · simp only [Tm.den]; cases (Tm.den ρ c).asBool <;> rfl

/-- Does a truth that holds say that 'c' is 'w'? -/
def saysPlain (c : Tm) (w : Bool) (t : Tm) : Bool :=
  match w with
  | true => decide (t = c)
  | false => decide (t = .op1 .not c) || decide (c = .op1 .not t)

theorem saysPlain_den (ρ : Env) (c : Tm) (w : Bool) (t : Tm) (h : saysPlain c w t = true) (ht : (t.den ρ).asBool = true) : (c.den ρ).asBool = w := by
  unfold saysPlain at h
  split at h
  · simp only [decide_eq_true_eq] at h; subst h; exact ht
  · simp only [Bool.or_eq_true, decide_eq_true_eq] at h
    rcases h with h | h
    · subst h; simpa [Tm.den, Op1.ev] using ht
    · subst h; simp [Tm.den, Op1.ev, ht]

def saysIt (c : Tm) (w : Bool) : Tm → Bool
  | .op2 o a b => saysPlain c w (.op2 o a b) || (decide (o = .band) && (saysIt c w a || saysIt c w b))
  | t => saysPlain c w t

theorem saysIt_den (ρ : Env) (c : Tm) (w : Bool) : ∀ g : Tm, saysIt c w g = true → (g.den ρ).asBool = true → (c.den ρ).asBool = w := by
  intro g
  induction g with
  | op2 o a b iha ihb =>
    intro h hg
    unfold saysIt at h
    simp only [Bool.or_eq_true, Bool.and_eq_true, decide_eq_true_eq] at h
    rcases h with h | ⟨ho, h⟩
    · exact saysPlain_den ρ c w _ h hg
    · subst ho
      simp only [Tm.den, Op2.ev, Sc.asBool_bool, Bool.and_eq_true] at hg
      rcases h with h | h
      · exact iha h hg.1
      · exact ihb h hg.2
  | _ => intro h hg; exact saysPlain_den ρ c w _ (by simpa [saysIt] using h) hg

end Go.Sx

/- Symbolic values, what they stand for, and the relation between a symbolic heap and a world. -/
namespace Go.Sx
open Go.RowKit

inductive Cap where
  | known (n : Nat)
  | of (b : Nat)
  deriving DecidableEq, Inhabited, Repr

inductive SVal where
  | int (k : IntKind) (t : Tm)
  | bool (t : Tm)
  | str (t : Tm)
  | ptr (b off : Nat)
  | nilptr
  | gptr (g off : Nat)
  | slice (b off len : Nat) (cap : Cap)
  | nilslice
  | agg (l : SVal)
  | tup (l : SVal)
  | func (fn : Fn) (first captured : SVal)
  | nilfunc
  | iface (t : TypeId) (v : SVal)
  | nilIface
  | val (i : Nat)
  | ptrI (b off : Nat) (i : Tm) (z : Nat)
  | nil
  | cons (a r : SVal)
  deriving DecidableEq, Inhabited, Repr

/-- Which blocks the names stand for, and how many elements the grown ones have room for. -/
structure Nm where
  blk : Nat → Nat
  cap : Nat → Nat

def Cap.ev (ι : Nm) : Cap → Nat
  | .known n => n
  | .of b => ι.cap b

mutual
def SVal.conc (ρ : Env) (ι : Nm) : SVal → Value
  | .int k t => .int k (t.den ρ).asInt
  | .bool t => .bool (t.den ρ).asBool
  | .str t => .string ⟨(t.den ρ).asStr.toArray⟩
  | .ptr b off => .pointer (some ⟨ι.blk b, off, none⟩)
  | .nilptr => .pointer none
  | .gptr g off => .pointer (some ⟨g, off, none⟩)
  | .slice b off len cap => .slice (some ⟨ι.blk b, off, none⟩) len (cap.ev ι)
  | .nilslice => .slice none 0 0
  | .agg l => .agg (l.concL ρ ι).toArray
  | .tup l => .tuple (l.concL ρ ι).toArray
  | .func fn first captured => .func fn (first.concL ρ ι).toArray (captured.concL ρ ι).toArray
  | .nilfunc => .nilFunc
  | .iface t v => .iface t (v.conc ρ ι)
  | .nilIface => .nilIface
  | .val i => ρ.val i
  | .ptrI b off i z => .pointer (some ⟨ι.blk b, off + (i.den ρ).asInt.toNat * z, none⟩)
  | .nil => undef
  | .cons _ _ => undef
def SVal.concL (ρ : Env) (ι : Nm) : SVal → List Value
  | .cons a r => a.conc ρ ι :: r.concL ρ ι
  | _ => []
end

/-- All names are below n. -/
def SVal.sc (n : Nat) : SVal → Bool
  | .ptr b _ => decide (b < n)
  | .slice b _ _ c => decide (b < n) && (match c with | .known _ => true | .of b => decide (b < n))
  | .agg l => l.sc n
  | .tup l => l.sc n
  | .func _ a b => a.sc n && b.sc n
  | .iface _ v => v.sc n
  | .ptrI b _ _ _ => decide (b < n)
  | .cons a r => a.sc n && r.sc n
  | _ => true

def Nm.Ext (n : Nat) (ι ι' : Nm) : Prop := ∀ m, m < n → ι'.blk m = ι.blk m ∧ ι'.cap m = ι.cap m

theorem Nm.Ext.refl (n : Nat) (ι : Nm) : Nm.Ext n ι ι := fun _ _ => ⟨rfl, rfl⟩
theorem Nm.Ext.trans {n m : Nat} {a b c : Nm} (h : Nm.Ext n a b) (hnm : n ≤ m) (k : Nm.Ext m b c) : Nm.Ext n a c := fun i hi =>
  ⟨(k i (by omega)).1.trans (h i hi).1, (k i (by omega)).2.trans (h i hi).2⟩
def Nm.put (ι : Nm) (n b c : Nat) : Nm := { blk := fun m => if m = n then b else ι.blk m, cap := fun m => if m = n then c else ι.cap m }
theorem Nm.ext_put (ι : Nm) (n b c : Nat) : Nm.Ext n ι (ι.put n b c) := fun m hm => ⟨by simp [Nm.put, Nat.ne_of_lt hm], by simp [Nm.put, Nat.ne_of_lt hm]⟩
theorem Nm.Ext.mono {n m : Nat} {a b : Nm} (h : Nm.Ext m a b) (hnm : n ≤ m) : Nm.Ext n a b := fun i hi => h i (by omega)

theorem SVal.sc_mono {n m : Nat} (hnm : n ≤ m) : ∀ v : SVal, v.sc n = true → v.sc m = true := by
  intro v
  induction v with
  | slice b off len c => 
    cases c <;> simp only [SVal.sc, Bool.and_eq_true, decide_eq_true_eq, and_true] <;> omega
  | ptr b off => simp only [SVal.sc, decide_eq_true_eq]; omega
  | ptrI b off i z => simp only [SVal.sc, decide_eq_true_eq]; omega
  | func fn a b iha ihb => simp only [SVal.sc, Bool.and_eq_true]; exact fun h => ⟨iha h.1, ihb h.2⟩
  | cons a r iha ihr => simp only [SVal.sc, Bool.and_eq_true]; exact fun h => ⟨iha h.1, ihr h.2⟩
  | _ => simp_all [SVal.sc]

theorem SVal.conc_ext {n : Nat} {ρ : Env} {ι ι' : Nm} (h : Nm.Ext n ι ι') (v : SVal) : v.sc n = true → v.conc ρ ι' = v.conc ρ ι ∧ v.concL ρ ι' = v.concL ρ ι := by
  induction v with
  | ptr b off => simp only [SVal.sc, decide_eq_true_eq]; intro hb; exact ⟨by simp [SVal.conc, (h b hb).1], by simp [SVal.concL]⟩
  | slice b off len c =>
    cases c with
    | known m => simp only [SVal.sc, Bool.and_eq_true, decide_eq_true_eq, and_true]; intro hb; exact ⟨by simp [SVal.conc, (h b hb).1, Cap.ev], by simp [SVal.concL]⟩
    | of d => simp only [SVal.sc, Bool.and_eq_true, decide_eq_true_eq]; intro hb; exact ⟨by simp [SVal.conc, (h b hb.1).1, (h d hb.2).2, Cap.ev], by simp [SVal.concL]⟩
  | agg l ih => simp only [SVal.sc]; intro hs; exact ⟨by simp [SVal.conc, (ih hs).2], by simp [SVal.concL]⟩
  | tup l ih => simp only [SVal.sc]; intro hs; exact ⟨by simp [SVal.conc, (ih hs).2], by simp [SVal.concL]⟩
  | func fn a b iha ihb => simp only [SVal.sc, Bool.and_eq_true]; intro hs; exact ⟨by simp [SVal.conc, (iha hs.1).2, (ihb hs.2).2], by simp [SVal.concL]⟩
  | iface t v ih => simp only [SVal.sc]; intro hs; exact ⟨by simp [SVal.conc, (ih hs).1], by simp [SVal.concL]⟩
  | ptrI b off i z => simp only [SVal.sc, decide_eq_true_eq]; intro hb; exact ⟨by simp [SVal.conc, (h b hb).1], by simp [SVal.concL]⟩
  | cons a r iha ihr => simp only [SVal.sc, Bool.and_eq_true]; intro hs; exact ⟨by simp [SVal.conc], by simp [SVal.concL, (iha hs.1).1, (ihr hs.2).2]⟩
  | _ => intro _; exact ⟨by simp [SVal.conc], by simp [SVal.concL]⟩

/-! ### Lists of values -/

def SVal.len : SVal → Nat
  | .cons _ r => r.len + 1
  | _ => 0
def SVal.nth : SVal → Nat → Option SVal
  | .cons a _, 0 => some a
  | .cons _ r, i + 1 => r.nth i
  | _, _ => none
def SVal.setAt : SVal → Nat → SVal → SVal
  | .cons _ r, 0, v => .cons v r
  | .cons a r, i + 1, v => .cons a (r.setAt i v)
  | l, _, _ => l
def SVal.app : SVal → SVal → SVal
  | .cons a r, l => .cons a (r.app l)
  | _, l => l
def SVal.dropN : SVal → Nat → SVal
  | .cons _ r, i + 1 => r.dropN i
  | l, _ => l
def SVal.takeN : SVal → Nat → SVal
  | .cons a r, i + 1 => .cons a (r.takeN i)
  | _, _ => .nil
def SVal.ofList : List SVal → SVal
  | [] => .nil
  | a :: l => .cons a (SVal.ofList l)
def SVal.toList : SVal → List SVal
  | .cons a r => a :: r.toList
  | _ => []

section
variable (ρ : Env) (ι : Nm)

theorem SVal.concL_length (l : SVal) : (l.concL ρ ι).length = l.len := by
  induction l <;> simp_all [SVal.concL, SVal.len]

theorem SVal.concL_nth (l : SVal) : ∀ i : Nat, (l.concL ρ ι)[i]? = (l.nth i).map (·.conc ρ ι) := by
  induction l with
  | cons a r _ ihr =>
    intro i
    cases i with
    | zero => simp [SVal.concL, SVal.nth]
    | succ i => simp [SVal.concL, SVal.nth, ihr]
  | _ => intro i; simp [SVal.concL, SVal.nth]

theorem SVal.concL_setAt (l : SVal) : ∀ (i : Nat) (v : SVal), (l.setAt i v).concL ρ ι = (l.concL ρ ι).set i (v.conc ρ ι) := by
  induction l with
  | cons a r _ ihr =>
    intro i v
    cases i with
    | zero => simp [SVal.concL, SVal.setAt]
    | succ i => simp [SVal.concL, SVal.setAt, ihr]
  | _ => intro i v; simp [SVal.concL, SVal.setAt]

theorem SVal.concL_app (l : SVal) (r : SVal) : (l.app r).concL ρ ι = l.concL ρ ι ++ r.concL ρ ι := by
  induction l with
  | cons a l' _ ih => simp [SVal.concL, SVal.app, ih]
  | _ => simp [SVal.concL, SVal.app]

theorem SVal.concL_dropN (l : SVal) : ∀ i : Nat, (l.dropN i).concL ρ ι = (l.concL ρ ι).drop i := by
  induction l with
  | cons a r _ ihr =>
    intro i
    cases i with
    | zero => simp [SVal.dropN]
    | succ i => simp [SVal.concL, SVal.dropN, ihr]
  | _ => intro i; simp [SVal.concL, SVal.dropN]

theorem SVal.concL_takeN (l : SVal) : ∀ i : Nat, (l.takeN i).concL ρ ι = (l.concL ρ ι).take i := by
  induction l with
  | cons a r _ ihr =>
    intro i
    cases i with
    | zero => simp [SVal.takeN, SVal.concL]
    | succ i => simp [SVal.concL, SVal.takeN, ihr]
  | _ => intro i; simp [SVal.concL, SVal.takeN]

theorem SVal.concL_ofList (l : List SVal) : (SVal.ofList l).concL ρ ι = l.map (·.conc ρ ι) := by
  induction l <;> simp_all [SVal.concL, SVal.ofList]

theorem SVal.concL_toList (l : SVal) : l.concL ρ ι = l.toList.map (·.conc ρ ι) := by
  induction l <;> simp_all [SVal.concL, SVal.toList]
end

theorem SVal.sc_nth {n : Nat} (l : SVal) : ∀ (i : Nat) (v : SVal), l.sc n = true → l.nth i = some v → v.sc n = true := by
  induction l with
  | cons a r _ ihr =>
    intro i v h hv
    simp only [SVal.sc, Bool.and_eq_true] at h
    cases i with
    | zero => simp only [SVal.nth, Option.some.injEq] at hv; subst hv; exact h.1
    | succ i => exact ihr i v h.2 hv
  | _ => intro i v _ hv; simp [SVal.nth] at hv

theorem SVal.sc_setAt {n : Nat} (l : SVal) : ∀ (i : Nat) (v : SVal), l.sc n = true → v.sc n = true → (l.setAt i v).sc n = true := by
  induction l with
  | cons a r _ ihr =>
    intro i v h hv
    simp only [SVal.sc, Bool.and_eq_true] at h
    cases i with
    | zero => simp [SVal.setAt, SVal.sc, hv, h.2]
    | succ i => simp [SVal.setAt, SVal.sc, h.1, ihr i v h.2 hv]
  | _ => intro i v h _; simpa [SVal.setAt] using h

theorem SVal.sc_app {n : Nat} (l r : SVal) (hl : l.sc n = true) (hr : r.sc n = true) : (l.app r).sc n = true := by
  induction l with
  | cons a l' _ ih => simp only [SVal.sc, Bool.and_eq_true] at hl; simp [SVal.app, SVal.sc, hl.1, ih hl.2]
  | _ => simpa [SVal.app] using hr

theorem SVal.sc_dropN {n : Nat} (l : SVal) : ∀ i : Nat, l.sc n = true → (l.dropN i).sc n = true := by
  induction l with
  | cons a r _ ihr =>
    intro i h
    cases i with
    | zero => simpa [SVal.dropN] using h
    | succ i => simp only [SVal.sc, Bool.and_eq_true] at h; exact ihr i h.2
  | _ => intro i h; simpa [SVal.dropN] using h

theorem SVal.sc_takeN {n : Nat} (l : SVal) : ∀ i : Nat, l.sc n = true → (l.takeN i).sc n = true := by
  induction l with
  | cons a r _ ihr =>
    intro i h
    cases i with
    | zero => simp [SVal.takeN, SVal.sc]
    | succ i => simp only [SVal.sc, Bool.and_eq_true] at h; simp [SVal.takeN, SVal.sc, h.1, ihr i h.2]
  | _ => intro i h; simp [SVal.takeN, SVal.sc]

theorem SVal.sc_ofList {n : Nat} (l : List SVal) (h : ∀ v ∈ l, v.sc n = true) : (SVal.ofList l).sc n = true := by
  induction l with
  | nil => rfl
  | cons a r ih => simp [SVal.ofList, SVal.sc, h a (by simp), ih (fun v hv => h v (by simp [hv]))]

theorem SVal.sc_toList {n : Nat} (l : SVal) (h : l.sc n = true) : ∀ v ∈ l.toList, v.sc n = true := by
  induction l with
  | cons a r _ ihr =>
    simp only [SVal.sc, Bool.and_eq_true] at h
    intro v hv
    simp only [SVal.toList, List.mem_cons] at hv
    rcases hv with rfl | hv
    · exact h.1
    · exact ihr h.2 v hv
  | _ => intro v hv; simp [SVal.toList] at hv

/-! ### The heap -/

/-- A block: its cells; how many cells an element has, where there may be more of them behind those that are known (none: no more). -/
structure Blk where
  cells : SVal
  elem : TypeId
  spare : Option Nat
  deriving DecidableEq, Inhabited, Repr

abbrev Heap := List (Option Blk)

/-- Cells are such as the block says; c: for how many elements there is room. -/
def Blk.Fits (ρ : Env) (ι : Nm) (c : Nat) (b : Blk) (cs : Array Value) : Prop :=
  match b.spare with
  | none => cs.toList = b.cells.concL ρ ι
  | some z => (∃ rest, cs.toList = b.cells.concL ρ ι ++ rest) ∧ cs.size = c * z

theorem Blk.Fits.ext {ρ ι ι' c n} {b : Blk} {cs} (h : b.Fits ρ ι c cs) (e : Nm.Ext n ι ι') (hs : b.cells.sc n = true) : b.Fits ρ ι' c cs := by
  unfold Blk.Fits at *
  rw [(SVal.conc_ext (ρ := ρ) e b.cells hs).2]
  exact h

theorem Blk.Fits.starts {ρ ι c} {b : Blk} {cs} (h : b.Fits ρ ι c cs) : ∃ rest, cs.toList = b.cells.concL ρ ι ++ rest := by
  unfold Blk.Fits at h
  split at h
  · exact ⟨[], by simp [h]⟩
  · exact h.1

/-- The block of the world is such. -/
def Blk.Ok (ρ : Env) (ι : Nm) (n : Nat) (b : Blk) (w : World) : Prop :=
  ∃ cs : Array Value, w.heap[ι.blk n]? = some (.cells cs b.elem (0, 0)) ∧ b.Fits ρ ι (ι.cap n) cs

/-- What is known of variables at package level: by their numbers, their cells. -/
abbrev Globs := List (Nat × SVal)

structure HR (ρ : Env) (G : Globs) (K : Nat → Prop) (w0 : World) (ι : Nm) (h : Heap) (w : World) : Prop where
  os : w.os = w0.os
  tape : w.tape = w0.tape
  output : w.output = w0.output
  size : w0.heap.size ≤ w.heap.size
  kept : ∀ k, K k → w.heap[k]? = w0.heap[k]?
  old : ∀ k, K k → k < w0.heap.size
  blocks : ∀ n b, h[n]? = some (some b) → ¬ K (ι.blk n) ∧ b.Ok ρ ι n w ∧ b.cells.sc h.length = true
  inj : ∀ n m b c, h[n]? = some (some b) → h[m]? = some (some c) → ι.blk n = ι.blk m → n = m
  globs : ∀ g cs, (g, cs) ∈ G → K g ∧ cs.sc 0 = true ∧ ∃ arr t fz, w0.heap[g]? = some (.cells arr t fz) ∧ arr.toList = cs.concL ρ ι

section
variable {ρ : Env} {G : Globs} {K : Nat → Prop} {w0 w w' : World} {ι ι' : Nm} {h h' : Heap}

theorem HR.lt (H : HR ρ G K w0 ι h w) {n : Nat} {b : Blk} (hb : h[n]? = some (some b)) : ι.blk n < w.heap.size := by
  obtain ⟨_, ⟨cs, h2, _⟩, _⟩ := H.blocks n b hb
  exact (Array.getElem?_eq_some_iff.1 h2).1

/-- Names may be changed above those that the heap knows. -/
theorem HR.ext (H : HR ρ G K w0 ι h w) (e : Nm.Ext h.length ι ι') : HR ρ G K w0 ι' h w := by
  refine ⟨H.os, H.tape, H.output, H.size, H.kept, H.old, ?_, ?_, ?_⟩
  · intro n b hb
    have hn : n < h.length := (List.getElem?_eq_some_iff.1 hb).1
    obtain ⟨h1, ⟨cs, h2, h3⟩, h4⟩ := H.blocks n b hb
    exact ⟨by rw [(e n hn).1]; exact h1, ⟨cs, by rw [(e n hn).1]; exact h2, by rw [(e n hn).2]; exact h3.ext e h4⟩, h4⟩
  · intro n m b c hb hc he
    have hn : n < h.length := (List.getElem?_eq_some_iff.1 hb).1
    have hm : m < h.length := (List.getElem?_eq_some_iff.1 hc).1
    rw [(e n hn).1, (e m hm).1] at he
    exact H.inj n m b c hb hc he
  · intro g cs hg
    obtain ⟨h1, h2, arr, t, fz, h3, h4⟩ := H.globs g cs hg
    refine ⟨h1, h2, arr, t, fz, h3, ?_⟩
    rw [h4]
    exact (SVal.conc_ext (ρ := ρ) (n := 0) (ι := ι) (ι' := ι') (fun m hm => by omega) cs h2).2.symm

theorem Nm.Ext.symm {n : Nat} (e : Nm.Ext n ι ι') : Nm.Ext n ι' ι := fun m hm => ⟨(e m hm).1.symm, (e m hm).2.symm⟩

/-- The heap may be forgotten in part. -/
theorem HR.forget (H : HR ρ G K w0 ι h w) (hl : ∀ (n : Nat) (b : Blk), h'[n]? = some (some b) → h[n]? = some (some b) ∧ b.cells.sc h'.length = true) : HR ρ G K w0 ι h' w :=
  ⟨H.os, H.tape, H.output, H.size, H.kept, H.old, fun n b hb => ⟨(H.blocks n b (hl n b hb).1).1, (H.blocks n b (hl n b hb).1).2.1, (hl n b hb).2⟩,
   fun n m b c hb hc he => H.inj n m b c (hl n b hb).1 (hl m c hc).1 he, H.globs⟩

/-- A draw changes nothing. -/
theorem HR.drew (H : HR ρ G K w0 ι h w) (n : Nat) : HR ρ G K w0 ι h { w with drawn := n } :=
  ⟨H.os, H.tape, H.output, H.size, H.kept, H.old,
   fun n b hb => let ⟨h1, ⟨cs, h2, h3⟩, h4⟩ := H.blocks n b hb; ⟨h1, ⟨cs, h2, h3⟩, h4⟩, H.inj, H.globs⟩

theorem getElem?_append_new {b : Blk} {n : Nat} {b' : Blk} (hb' : (h ++ [some b])[n]? = some (some b')) : (h[n]? = some (some b')) ∨ (n = h.length ∧ b' = b) := by
  by_cases hn : n < h.length
  · rw [List.getElem?_append_left hn] at hb'; exact .inl hb'
  · by_cases hn' : n = h.length
    · subst hn'; simp at hb'; exact .inr ⟨rfl, hb'.symm⟩
    · rw [List.getElem?_append_right (by omega)] at hb'
      rw [List.getElem?_eq_none (by simp; omega)] at hb'; cases hb'

/-- A new block. -/
theorem HR.alloc (H : HR ρ G K w0 ι h w) (b : Blk) (cs : Array Value) (c : Nat) (hc : b.cells.sc h.length = true) (hok : b.Fits ρ ι c cs) :
    HR ρ G K w0 (ι.put h.length w.heap.size c) (h ++ [some b]) (w.alloc (.cells cs b.elem)) := by
  let ι' : Nm := ι.put h.length w.heap.size c
  have e : Nm.Ext h.length ι ι' := Nm.ext_put ι _ _ _
  have H' := H.ext e
  have hblkn : ι'.blk h.length = w.heap.size := by simp [ι', Nm.put]
  have hcapn : ι'.cap h.length = c := by simp [ι', Nm.put]
  refine ⟨H.os, H.tape, H.output, ?_, ?_, H.old, ?_, ?_, H'.globs⟩
  · have := H.size; simp; omega
  · intro k hk
    have := H.old k hk
    have := H.size
    rw [Below.heap_alloc _ _ _ (by omega)]
    exact H.kept k hk
  · intro n b' hb'
    rcases getElem?_append_new hb' with h1 | ⟨rfl, rfl⟩
    · obtain ⟨k1, ⟨cs', k2, k3⟩, k4⟩ := H'.blocks n b' h1
      refine ⟨k1, ⟨cs', ?_, k3⟩, SVal.sc_mono (by simp) _ k4⟩
      rw [Below.heap_alloc _ _ _ (H'.lt h1)]; exact k2
    · refine ⟨?_, ⟨cs, ?_, ?_⟩, SVal.sc_mono (by simp) _ hc⟩
      · show ¬ K (ι'.blk h.length)
        rw [hblkn]
        intro hk
        have := H.old _ hk
        have := H.size
        omega
      · show (w.alloc (.cells cs b'.elem)).heap[ι'.blk h.length]? = _
        rw [hblkn]; simp only [World.alloc, Array.getElem?_push_size]
      · show b'.Fits ρ ι' (ι'.cap h.length) cs
        rw [hcapn]
        exact hok.ext e hc
  · intro n m b1 b2 hb1 hb2 he
    rcases getElem?_append_new hb1 with h1 | ⟨rfl, rfl⟩ <;> rcases getElem?_append_new hb2 with h2 | ⟨rfl, rfl⟩
    · exact H'.inj n m b1 b2 h1 h2 he
    · have := H'.lt h1; have he' : ι'.blk n = ι'.blk h.length := he; rw [hblkn] at he'; omega
    · have := H'.lt h2; have he' : ι'.blk h.length = ι'.blk m := he; rw [hblkn] at he'; omega
    · rfl

/-- What a block's cells hold. -/
theorem HR.cell (H : HR ρ G K w0 ι h w) {n i : Nat} {b : Blk} {v : SVal} (hb : h[n]? = some (some b)) (hv : b.cells.nth i = some v) :
    w.cell? ⟨ι.blk n, i, none⟩ = some (v.conc ρ ι) := by
  obtain ⟨_, ⟨cs, h2, h3⟩, _⟩ := H.blocks n b hb
  obtain ⟨rest, hr⟩ := h3.starts
  have h4 : cs[i]? = some (v.conc ρ ι) := by
    rw [← Array.getElem?_toList, hr, List.getElem?_append_left, SVal.concL_nth, hv]; · rfl
    have := SVal.concL_nth ρ ι b.cells i
    rw [hv] at this
    exact (List.getElem?_eq_some_iff.1 this).1
  simp [World.cell?, h2, h4]

theorem HR.frozen (H : HR ρ G K w0 ι h w) {n : Nat} {b : Blk} (hb : h[n]? = some (some b)) (i : Nat) (s : Option Nat) : w.frozen? ⟨ι.blk n, i, s⟩ = false := by
  obtain ⟨_, ⟨cs, h2, _⟩, _⟩ := H.blocks n b hb
  simp only [World.frozen?, h2]
  simp

/-- A cell of a block is written. -/
theorem HR.store (H : HR ρ G K w0 ι h w) {n i : Nat} {b : Blk} {u v : SVal} (hb : h[n]? = some (some b)) (hu : b.cells.nth i = some u) (hv : v.sc h.length = true) :
    HR ρ G K w0 ι (h.set n (some { b with cells := b.cells.setAt i v })) (w.setCell ⟨ι.blk n, i, none⟩ (v.conc ρ ι)) := by
  have hn : n < h.length := (List.getElem?_eq_some_iff.1 hb).1
  have hnK := (H.blocks n b hb).1
  have hi : i < b.cells.len := by
    have := SVal.concL_nth ρ ι b.cells i
    rw [hu] at this
    have := (List.getElem?_eq_some_iff.1 this).1
    rwa [SVal.concL_length] at this
  have key : ∀ m c, (h.set n (some { b with cells := b.cells.setAt i v }))[m]? = some (some c) → (m ≠ n ∧ h[m]? = some (some c)) ∨ (m = n ∧ c = { b with cells := b.cells.setAt i v }) := by
    intro m c hc
    by_cases hm : m = n
    · subst hm; rw [List.getElem?_set_self hn] at hc; simp at hc; exact .inr ⟨rfl, hc.symm⟩
    · rw [List.getElem?_set_ne (Ne.symm hm)] at hc; exact .inl ⟨hm, hc⟩
  refine ⟨H.os, H.tape, H.output, ?_, ?_, H.old, ?_, ?_, H.globs⟩
  · simpa using H.size
  · intro k hk
    rw [Below.heap_setCell _ _ _ _ (by intro e; subst e; exact hnK hk)]
    exact H.kept k hk
  · intro m c hc
    rcases key m c hc with ⟨hm, hc'⟩ | ⟨rfl, rfl⟩
    · obtain ⟨k1, ⟨cs, k2, k3⟩, k4⟩ := H.blocks m c hc'
      refine ⟨k1, ⟨cs, ?_, k3⟩, by simpa using k4⟩
      rw [Below.heap_setCell _ _ _ _ (by intro e; exact hm (H.inj m n c b hc' hb e))]
      exact k2
    · obtain ⟨k1, ⟨cs, k2, k3⟩, k4⟩ := H.blocks m b hb
      refine ⟨k1, ⟨cs.setIfInBounds i (v.conc ρ ι), ?_, ?_⟩, by simpa using SVal.sc_setAt _ i v k4 hv⟩
      · simp only [World.setCell, Array.getElem?_modify, if_true, k2]; simp
      · unfold Blk.Fits at *
        simp only at k3 ⊢
        cases hs : b.spare with
        | none =>
          rw [hs] at k3
          simp only at k3 ⊢
          rw [SVal.concL_setAt, ← k3]
          simp
        | some z =>
          rw [hs] at k3
          simp only at k3 ⊢
          obtain ⟨⟨rest, hr⟩, hz⟩ := k3
          refine ⟨⟨rest, ?_⟩, by simpa using hz⟩
          rw [SVal.concL_setAt, Array.toList_setIfInBounds, hr, List.set_append_left _ _ (by rw [SVal.concL_length]; exact hi)]
  · intro m1 m2 c1 c2 hc1 hc2 he
    rcases key m1 c1 hc1 with ⟨_, h1⟩ | ⟨rfl, _⟩ <;> rcases key m2 c2 hc2 with ⟨_, h2⟩ | ⟨rfl, _⟩
    · exact H.inj m1 m2 c1 c2 h1 h2 he
    · exact H.inj m1 m2 c1 b h1 hb he
    · exact H.inj m1 m2 b c2 hb h2 he
    · rfl

/-- All but what is named in a part of the heap is kept: a part of the heap, from this world on. -/
def keepAll (w : World) (ι : Nm) (h : Heap) (k : Nat) : Prop := k < w.heap.size ∧ ∀ n b, h[n]? = some (some b) → ι.blk n ≠ k

theorem HR.part (H : HR ρ G K w0 ι h w) (hl : ∀ (n : Nat) (b : Blk), h'[n]? = some (some b) → h[n]? = some (some b) ∧ b.cells.sc h'.length = true) :
    HR ρ G (keepAll w ι h') w ι h' w := by
  refine ⟨rfl, rfl, rfl, Nat.le_refl _, fun _ _ => rfl, fun k hk => hk.1, ?_, ?_, ?_⟩
  · intro n b hb
    obtain ⟨_, k2, _⟩ := H.blocks n b (hl n b hb).1
    exact ⟨fun hk => hk.2 n b hb rfl, k2, (hl n b hb).2⟩
  · exact fun n m b c hb hc he => H.inj n m b c (hl n b hb).1 (hl m c hc).1 he
  · intro g cs hg
    obtain ⟨h1, h2, arr, t, fz, h3, h4⟩ := H.globs g cs hg
    have hlt := H.old g h1
    have := H.size
    refine ⟨⟨by omega, fun n b hb he => (H.blocks n b (hl n b hb).1).1 (by rw [he]; exact h1)⟩, h2, arr, t, fz, by rw [H.kept g h1]; exact h3, h4⟩

end
end Go.Sx
