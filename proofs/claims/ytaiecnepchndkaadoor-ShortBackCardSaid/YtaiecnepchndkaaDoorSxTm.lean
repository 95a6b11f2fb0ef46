/- Symbolic scalar terms: constructors that fold literals. -/
import Derived.Test.YtaiecnepchndkaaDoorSxKb
namespace Go.Sx

def mk1 (o : Op1) (a : Tm) : Tm :=
  match a.lit? with
  | some x => ((o.ev x).quote?).getD (.op1 o a)
  | none =>
    match o, a with
    | .not, .op1 .not b => .op1 .not (.op1 .not b)
    | o, a => foldN (.op1 o a)

theorem mk1_den (ρ : Env) (o : Op1) (a : Tm) : (mk1 o a).den ρ = o.ev (a.den ρ) := by
  unfold mk1
  split
  · rename_i x hx
    rw [Tm.lit?_den ρ hx]
    cases h : (o.ev x).quote? with
    | none => simp [Tm.den, Tm.lit?_den ρ hx]
    | some t => simpa using Sc.quote?_den ρ h
  · split
    · rfl
    · exact foldN_den ρ _

/-- Terms that are the same need not be looked at. -/
def same2 (o : Op2) : Option Bool :=
  match o with
  | .eq => some true
  | .le => some true
  | .lt => some false
  | .beq => some true
  | .seq => some true
  | _ => none

theorem same2_ev {o : Op2} {b : Bool} (h : same2 o = some b) (x : Sc) : o.ev x x = .bool b := by
  cases o <;> simp [same2] at h <;> subst h <;> simp [Op2.ev]

def mk2 (o : Op2) (a b : Tm) : Tm :=
  match a.lit?, b.lit? with
  | some x, some y => ((o.ev x y).quote?).getD (.op2 o a b)
  | _, _ =>
    match same2 o with
    | some r => if a = b then .bit r else fold2 o a b
    | none => fold2 o a b

theorem mk2_den (ρ : Env) (o : Op2) (a b : Tm) : (mk2 o a b).den ρ = o.ev (a.den ρ) (b.den ρ) := by
  unfold mk2
  split
  · rename_i x y hx hy
    rw [Tm.lit?_den ρ hx, Tm.lit?_den ρ hy]
    cases h : (o.ev x y).quote? with
    | none => simp [Tm.den, Tm.lit?_den ρ hx, Tm.lit?_den ρ hy]
    | some t => simpa using Sc.quote?_den ρ h
  · split
    · rename_i r hr
      split
      · rename_i e; subst e; simp [Tm.den, same2_ev hr]
      · exact fold2_den ρ o a b
    · exact fold2_den ρ o a b

/-- A number of 63 bits that is a power of two. -/
def pow63 (n : Nat) : Option Nat := match Nat.beq (Nat.pow 2 (Nat.log2 n)) n && Nat.blt (Nat.log2 n) 63 with | true => some (Nat.log2 n) | false => none

/-- A choice by a bit between a power of two, or its contrary, and 0. -/
def iteNum (c : Tm) (p : Int) : Tm :=
  match c with
  | .op2 .eq (.op2 (.and k) y (.num 1)) (.num 1) => match p with
    | .ofNat p => match pow63 p with
      | some i => .op2 (.shl .i64) (.op1 (.conv .i64) (.op2 (.and k) y (.num 1))) (.num (.ofNat i))
      | none => .ite c (.num p) (.num 0)
    | .negSucc q => match pow63 (q + 1) with
      | some i => .op2 (.sub .i64) (.num 0) (.op2 (.shl .i64) (.op1 (.conv .i64) (.op2 (.and k) y (.num 1))) (.num (.ofNat i)))
      | none => .ite c (.num (.negSucc q)) (.num 0)
  | c => .ite c (.num p) (.num 0)

/-- A choice between a sum and what it began with. -/
def iteSum (c a b : Tm) : Tm :=
  match a with
  | .op2 (.add .i64) v (.num p) => match in64 b with
    | true => if v = b then .op2 (.add .i64) b (iteNum c p) else .ite c a b
    | false => .ite c a b
  | .num p => match b with
    | .num 0 => iteNum c p
    | _ => .ite c a b
  | _ => .ite c a b

/-- A choice between two terms. -/
def mkIte (c a b : Tm) : Tm :=
  match c with
  | .bit true => a
  | .bit false => b
  | _ => if a = b then a else iteSum c a b

theorem and_one (k : IntKind) (x : Int) : bitsOp k (fun a b => a &&& b) x 1 = 0 ∨ bitsOp k (fun a b => a &&& b) x 1 = 1 := by
  have hb := bitsOp_has k (fun a b => a &&& b) x 1
  have bit : ∀ i, i < k.bits → bitI (bitsOp k (fun a b => a &&& b) x 1) i = (bitI x i && bitI 1 i) := fun i hi => bitsOp_bit k _ (· && ·) (by intro a b i _; simp) x 1 i hi
  have b1 : ∀ i, bitI 1 i = decide (i = 0) := by
    intro i
    have := bitI_nat 1 i
    rw [show ((1 : Nat) : Int) = 1 from rfl] at this
    rw [this]
    by_cases h : i = 0
    · subst h; rfl
    · rw [decide_eq_false h]
      cases hb : Nat.testBit 1 i
      · rfl
      · exact (h (Nat.testBit_one_eq_true_iff_self_eq_zero.1 hb)).elim
  cases hx : bitI x 0
  · left
    refine eq_of_has hb (by cases k <;> simp [kHas, IntKind.signed, IntKind.bits]) fun i hi => ?_
    rw [bit i hi, b1]
    have z : bitI 0 i = false := by have := bitI_nat 0 i; rw [show ((0 : Nat) : Int) = 0 from rfl] at this; rw [this]; exact Nat.zero_testBit i
    rw [z]
    by_cases h0 : i = 0
    · subst h0; simp [hx]
    · simp [h0]
  · right
    refine eq_of_has hb (by cases k <;> simp [kHas, IntKind.signed, IntKind.bits]) fun i hi => ?_
    rw [bit i hi, b1]
    by_cases h0 : i = 0
    · subst h0; simp [hx]
    · simp [h0]

theorem pow63_eq {n c : Nat} (h : pow63 n = some c) : n = 2 ^ c ∧ c < 63 := by
  unfold pow63 at h
  split at h
  · rename_i hh
    simp only [Bool.and_eq_true] at hh
    simp only [Option.some.injEq] at h; subst h
    exact ⟨(Nat.eq_of_beq_eq_true hh.1).symm, blt_lt hh.2⟩
  · cases h

theorem wrap_small {n : Int} (h1 : -2 ^ 63 ≤ n) (h2 : n < 2 ^ 63) : IntKind.i64.wrap n = n := wrap_eq (k := .i64) ⟨h1, h2⟩ (fun _ _ => rfl)

theorem shl_bit_den (ρ : Env) (k : IntKind) (y : Tm) {i : Nat} (hi : i < 63) :
    ((Tm.op2 (.shl .i64) (.op1 (.conv .i64) (.op2 (.and k) y (.num 1))) (.num (.ofNat i))).den ρ) = .int (match (Tm.op2 .eq (.op2 (.and k) y (.num 1)) (.num 1)).den ρ |>.asBool with | true => 2 ^ i | false => 0) := by
  have hp : (0 : Int) < 2 ^ i := Int.pow_pos (by omega)
  have hp2 : (2 : Int) ^ i ≤ 2 ^ 62 := by exact_mod_cast Nat.pow_le_pow_right (n := 2) (by omega) (show i ≤ 62 by omega)
  have hm : min (Int.ofNat i).toNat IntKind.i64.bits = i := by show min i 64 = i; omega
  show Sc.int (IntKind.i64.wrap (IntKind.i64.wrap (bitsOp k (fun a b => a &&& b) (y.den ρ).asInt 1) * 2 ^ (min (Int.ofNat i).toNat IntKind.i64.bits))) = Sc.int (match (bitsOp k (fun a b => a &&& b) (y.den ρ).asInt 1 == 1) with | true => 2 ^ i | false => 0)
  rw [hm]
  congr 1
  rcases and_one k (y.den ρ).asInt with h | h <;> rw [h]
  · rw [wrap_small (n := 0) (by omega) (by omega), Int.zero_mul, wrap_small (by omega) (by omega)]; rfl
  · rw [wrap_small (n := 1) (by omega) (by omega), Int.one_mul, wrap_small (by omega) (by omega)]; rfl

theorem iteNum_den (ρ : Env) (c : Tm) (p : Int) : (iteNum c p).den ρ = (match (c.den ρ).asBool with | true => .int p | false => .int 0) := by
  unfold iteNum
  split
  · rename_i k y
    split
    · rename_i p
      split
      · rename_i i hi
        obtain ⟨rfl, hi'⟩ := pow63_eq hi
        rw [shl_bit_den ρ k y hi']
        have e : Int.ofNat (2 ^ i) = (2 : Int) ^ i := by simp
        rw [e]
        cases (Tm.den ρ (Tm.op2 .eq (.op2 (.and k) y (.num 1)) (.num 1))).asBool <;> rfl
      · simp only [Tm.den]; cases (Op2.eq.ev (Op2.ev (.and k) (y.den ρ) (.int 1)) (.int 1)).asBool <;> rfl
    · rename_i q
      split
      · rename_i i hi
        obtain ⟨hq, hi⟩ := pow63_eq hi
        have hp : (0 : Int) < 2 ^ i := Int.pow_pos (by omega)
        have hp2 : (2 : Int) ^ i ≤ 2 ^ 62 := by exact_mod_cast Nat.pow_le_pow_right (n := 2) (by omega) (show i ≤ 62 by omega)
        have e : Int.negSucc q = -(2 : Int) ^ i := by
          have : ((q + 1 : Nat) : Int) = 2 ^ i := by rw [hq]; simp
          rw [Int.negSucc_eq]; omega
        have := shl_bit_den ρ k y hi
        rw [show (Tm.op2 (.sub .i64) (.num 0) (.op2 (.shl .i64) (.op1 (.conv .i64) (.op2 (.and k) y (.num 1))) (.num (.ofNat i)))).den ρ = .int (IntKind.i64.wrap (0 - ((Tm.op2 (.shl .i64) (.op1 (.conv .i64) (.op2 (.and k) y (.num 1))) (.num (.ofNat i))).den ρ).asInt)) from rfl, this, e]
        cases (Tm.den ρ (Tm.op2 .eq (.op2 (.and k) y (.num 1)) (.num 1))).asBool
        · show Sc.int (IntKind.i64.wrap (0 - 0)) = Sc.int 0
          rw [wrap_small (by omega) (by omega)]; rfl
        · show Sc.int (IntKind.i64.wrap (0 - 2 ^ i)) = Sc.int (-2 ^ i)
          rw [wrap_small (by omega) (by omega)]; congr 1; omega
      · simp only [Tm.den]; cases (Op2.eq.ev (Op2.ev (.and k) (y.den ρ) (.int 1)) (.int 1)).asBool <;> rfl
  · simp only [Tm.den]; cases (c.den ρ).asBool <;> rfl

theorem iteSum_den (ρ : Env) (c a b : Tm) : (iteSum c a b).den ρ = (match (c.den ρ).asBool with | true => a.den ρ | false => b.den ρ) := by
  have plain : ∀ a b : Tm, (Tm.ite c a b).den ρ = (match (c.den ρ).asBool with | true => a.den ρ | false => b.den ρ) := by
    intro a b; simp only [Tm.den]; cases (c.den ρ).asBool <;> rfl
  unfold iteSum
  split
  · rename_i v p
    split
    · rename_i hb
      split
      · rename_i e
        subst e
        obtain ⟨h0, h1, h2⟩ := in64_ok ρ _ hb
        rw [show (Tm.op2 (.add .i64) v (iteNum c p)).den ρ = .int (IntKind.i64.wrap ((v.den ρ).asInt + ((iteNum c p).den ρ).asInt)) from rfl, iteNum_den]
        cases (c.den ρ).asBool
        · show Sc.int (IntKind.i64.wrap ((v.den ρ).asInt + 0)) = v.den ρ
          rw [Int.add_zero, wrap_small h1 h2]; exact h0.symm
        · rfl
      · exact plain _ _
    · exact plain _ _
  · rename_i p
    split
    · rw [iteNum_den]; cases (c.den ρ).asBool <;> rfl
    · exact plain _ _
  · exact plain _ _

theorem mkIte_den (ρ : Env) (c a b : Tm) : (mkIte c a b).den ρ = (match (c.den ρ).asBool with | true => a.den ρ | false => b.den ρ) := by
  unfold mkIte
  split
  · rfl
  · rfl
  · split
    · rename_i e; subst e; cases (c.den ρ).asBool <;> rfl
    · exact iteSum_den ρ c a b

def mkNot (a : Tm) : Tm :=
  match a with
  | .bit b => .bit (!b)
  | .op1 .not b => b
  | _ => .op1 .not a

theorem mkNot_den (ρ : Env) (a : Tm) : ((mkNot a).den ρ).asBool = !(a.den ρ).asBool := by
  unfold mkNot
  split <;> simp [Tm.den, Op1.ev]

def mkAnd (a b : Tm) : Tm :=
  match a, b with
  | .bit true, b => b
  | .bit false, _ => .bit false
  | a, .bit true => a
  | _, .bit false => .bit false
  | a, b => if a = b then a else .op2 .band a b

theorem mkAnd_den (ρ : Env) (a b : Tm) : ((mkAnd a b).den ρ).asBool = ((a.den ρ).asBool && (b.den ρ).asBool) := by
  unfold mkAnd
  split
  · simp [Tm.den]
  · simp [Tm.den]
  · simp [Tm.den]
  · simp [Tm.den]
  · split
    · rename_i e; subst e; simp
    · simp [Tm.den, Op2.ev]

def mkOr (a b : Tm) : Tm :=
  match a, b with
  | .bit false, b => b
  | .bit true, _ => .bit true
  | a, .bit false => a
  | _, .bit true => .bit true
  | a, b => if a = b then a else .op2 .bor a b

theorem mkOr_den (ρ : Env) (a b : Tm) : ((mkOr a b).den ρ).asBool = ((a.den ρ).asBool || (b.den ρ).asBool) := by
  unfold mkOr
  split
  · simp [Tm.den]
  · simp [Tm.den]
  · simp [Tm.den]
  · simp [Tm.den]
  · split
    · rename_i e; subst e; simp
    · simp [Tm.den, Op2.ev]

/-- A choice between two truths. -/
def mkIteB (c a b : Tm) : Tm :=
  match c with
  | .bit true => a
  | .bit false => b
  | _ =>
    if a = b then a
    else match a, b with
      | .bit true, b => mkOr c b
      | .bit false, b => mkAnd (mkNot c) b
      | a, .bit false => mkAnd c a
      | a, .bit true => mkOr (mkNot c) a
      | a, b => .ite c a b

theorem mkIteB_den (ρ : Env) (c a b : Tm) : ((mkIteB c a b).den ρ).asBool = (match (c.den ρ).asBool with | true => (a.den ρ).asBool | false => (b.den ρ).asBool) := by
  unfold mkIteB
  split
  · rfl
  · rfl
  · split
    · rename_i e; subst e; split <;> rfl
    · split
      · rw [mkOr_den]; cases (c.den ρ).asBool <;> simp [Tm.den]
      · rw [mkAnd_den, mkNot_den]; cases (c.den ρ).asBool <;> simp [Tm.den]
      · rw [mkAnd_den]; cases (c.den ρ).asBool <;> simp [Tm.den]
      · rw [mkOr_den, mkNot_den]; cases (c.den ρ).asBool <;> simp [Tm.den]
      · simp only [Tm.den]; cases (Tm.den ρ c).asBool <;> rfl

/-- Does a truth that holds say that 'c' is 'w'? -/
def saysPlain (c : Tm) (w : Bool) (t : Tm) : Bool :=
  match w with
  | true => decide (t = c)
  | false => decide (t = .op1 .not c) || decide (c = .op1 .not t)

theorem saysPlain_den (ρ : Env) (c : Tm) (w : Bool) (t : Tm) (h : saysPlain c w t = true) (ht : (t.den ρ).asBool = true) : (c.den ρ).asBool = w := by
  unfold saysPlain at h
  split at h
  · simp only [decide_eq_true_eq] at h; subst h; exact ht
  · simp only [Bool.or_eq_true, decide_eq_true_eq] at h
    rcases h with h | h
    · subst h; simpa [Tm.den, Op1.ev] using ht
    · subst h; simp [Tm.den, Op1.ev, ht]

def saysIt (c : Tm) (w : Bool) : Tm → Bool
  | .op2 o a b => saysPlain c w (.op2 o a b) || (decide (o = .band) && (saysIt c w a || saysIt c w b))
  | t => saysPlain c w t

theorem saysIt_den (ρ : Env) (c : Tm) (w : Bool) : ∀ g : Tm, saysIt c w g = true → (g.den ρ).asBool = true → (c.den ρ).asBool = w := by
  intro g
  induction g with
  | op2 o a b iha ihb =>
    intro h hg
    unfold saysIt at h
    simp only [Bool.or_eq_true, Bool.and_eq_true, decide_eq_true_eq] at h
    rcases h with h | ⟨ho, h⟩
    · exact saysPlain_den ρ c w _ h hg
    · subst ho
      simp only [Tm.den, Op2.ev, Sc.asBool_bool, Bool.and_eq_true] at hg
      rcases h with h | h
      · exact iha h hg.1
      · exact ihb h hg.2
  | _ => intro h hg; exact saysPlain_den ρ c w _ (by simpa [saysIt] using h) hg

end Go.Sx
