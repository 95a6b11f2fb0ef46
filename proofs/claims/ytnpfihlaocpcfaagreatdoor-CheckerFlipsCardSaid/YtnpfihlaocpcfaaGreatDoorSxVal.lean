/- Symbolic scalar terms: constructors that fold literals. -/
import Derived.Test.YtnpfihlaocpcfaaGreatDoorSxKb
namespace Go.Sx
noncomputable section

def mk1 (o : Op1) (a : Tm) : Tm :=
  match a.lit? with
  | some x => ((o.ev x).quote?).getD (.op1 o a)
  | none =>
    match o, a with
    | .not, .op1 .not b => .op1 .not (.op1 .not b)
    | o, a => foldN (.op1 o a)

theorem mk1_den (ρ : Env) (o : Op1) (a : Tm) : (mk1 o a).den ρ = o.ev (a.den ρ) := by
  unfold mk1
  split
  · rename_i x hx
    rw [Tm.lit?_den ρ hx]
    cases h : (o.ev x).quote? with
    | none => simp [Tm.den, Tm.lit?_den ρ hx]
    | some t => simpa using Sc.quote?_den ρ h
  · split
    · rfl
    · exact foldN_den ρ _

/-- Terms that are the same need not be looked at. -/
def same2 (o : Op2) : Option Bool :=
  match o with
  | .eq => some true
  | .le => some true
  | .lt => some false
  | .beq => some true
  | .seq => some true
  | _ => none

theorem same2_ev {o : Op2} {b : Bool} (h : same2 o = some b) (x : Sc) : o.ev x x = .bool b := by
  cases o <;> simp [same2] at h <;> subst h <;> simp [Op2.ev]

def mk2 (o : Op2) (a b : Tm) : Tm :=
  match a.lit?, b.lit? with
  | some x, some y => ((o.ev x y).quote?).getD (.op2 o a b)
  | _, _ =>
    match same2 o with
    | some r => if a = b then .bit r else fold2 o a b
    | none => fold2 o a b

theorem mk2_den (ρ : Env) (o : Op2) (a b : Tm) : (mk2 o a b).den ρ = o.ev (a.den ρ) (b.den ρ) := by
  unfold mk2
  split
  · rename_i x y hx hy
    rw [Tm.lit?_den ρ hx, Tm.lit?_den ρ hy]
    cases h : (o.ev x y).quote? with
    | none => simp [Tm.den, Tm.lit?_den ρ hx, Tm.lit?_den ρ hy]
    | some t => simpa using Sc.quote?_den ρ h
  · split
    · rename_i r hr
      split
      · rename_i e; subst e; simp [Tm.den, same2_ev hr]
      · exact fold2_den ρ o a b
    · exact fold2_den ρ o a b

/-- A number of 63 bits that is a power of two. -/
def pow63 (n : Nat) : Option Nat := match Nat.beq (Nat.pow 2 (Nat.log2 n)) n && Nat.blt (Nat.log2 n) 63 with | true => some (Nat.log2 n) | false => none

/-- A choice by a bit between a power of two, or its contrary, and 0. -/
def iteNum (c : Tm) (p : Int) : Tm :=
  match c with
  | .op2 .eq (.op2 (.and k) y (.num 1)) (.num 1) => match p with
    | .ofNat p => match pow63 p with
      | some i => .op2 (.shl .i64) (.op1 (.conv .i64) (.op2 (.and k) y (.num 1))) (.num (.ofNat i))
      | none => .ite c (.num p) (.num 0)
    | .negSucc q => match pow63 (q + 1) with
      | some i => .op2 (.sub .i64) (.num 0) (.op2 (.shl .i64) (.op1 (.conv .i64) (.op2 (.and k) y (.num 1))) (.num (.ofNat i)))
      | none => .ite c (.num (.negSucc q)) (.num 0)
  | c => .ite c (.num p) (.num 0)

/-- A choice between a sum and what it began with. -/
def iteSum (c a b : Tm) : Tm :=
  match a with
  | .op2 (.add .i64) v (.num p) => match in64 b with
    | true => if v = b then .op2 (.add .i64) b (iteNum c p) else .ite c a b
    | false => .ite c a b
  | .num p => match b with
    | .num 0 => iteNum c p
    | _ => .ite c a b
  | _ => .ite c a b

/-- A choice between two terms. -/
def mkIte (c a b : Tm) : Tm :=
  match c with
  | .bit true => a
  | .bit false => b
  | _ => if a = b then a else iteSum c a b

theorem and_one (k : IntKind) (x : Int) : bitsOp k (fun a b => a &&& b) x 1 = 0 ∨ bitsOp k (fun a b => a &&& b) x 1 = 1 := by
  have hb := bitsOp_has k (fun a b => a &&& b) x 1
  have bit : ∀ i, i < k.bits → bitI (bitsOp k (fun a b => a &&& b) x 1) i = (bitI x i && bitI 1 i) := fun i hi => bitsOp_bit k _ (· && ·) (by intro a b i _; simp) x 1 i hi
  have b1 : ∀ i, bitI 1 i = decide (i = 0) := by
    intro i
    have := bitI_nat 1 i
    rw [show ((1 : Nat) : Int) = 1 from rfl] at this
    rw [this]
    by_cases h : i = 0
    · subst h; rfl
    · rw [decide_eq_false h]
      cases hb : Nat.testBit 1 i
      · rfl
      · exact (h (Nat.testBit_one_eq_true_iff_self_eq_zero.1 hb)).elim
  cases hx : bitI x 0
  · left
    refine eq_of_has hb (by cases k <;> simp [kHas, IntKind.signed, IntKind.bits]) fun i hi => ?_
    rw [bit i hi, b1]
    have z : bitI 0 i = false := by have := bitI_nat 0 i; rw [show ((0 : Nat) : Int) = 0 from rfl] at this; rw [this]; exact Nat.zero_testBit i
    rw [z]
    by_cases h0 : i = 0
    · subst h0; simp [hx]
    · simp [h0]
  · right
    refine eq_of_has hb (by cases k <;> simp [kHas, IntKind.signed, IntKind.bits]) fun i hi => ?_
    rw [bit i hi, b1]
    by_cases h0 : i = 0
    · subst h0; simp [hx]
    · simp [h0]

theorem pow63_eq {n c : Nat} (h : pow63 n = some c) : n = 2 ^ c ∧ c < 63 := by
  unfold pow63 at h
  split at h
  · rename_i hh
    simp only [Bool.and_eq_true] at hh
    simp only [Option.some.injEq] at h; subst h
    exact ⟨(Nat.eq_of_beq_eq_true hh.1).symm, blt_lt hh.2⟩
  · cases h

theorem wrap_small {n : Int} (h1 : -2 ^ 63 ≤ n) (h2 : n < 2 ^ 63) : IntKind.i64.wrap n = n := wrap_eq (k := .i64) ⟨h1, h2⟩ (fun _ _ => rfl)

theorem shl_bit_den (ρ : Env) (k : IntKind) (y : Tm) {i : Nat} (hi : i < 63) :
    ((Tm.op2 (.shl .i64) (.op1 (.conv .i64) (.op2 (.and k) y (.num 1))) (.num (.ofNat i))).den ρ) = .int (match (Tm.op2 .eq (.op2 (.and k) y (.num 1)) (.num 1)).den ρ |>.asBool with | true => 2 ^ i | false => 0) := by
  have hp : (0 : Int) < 2 ^ i := Int.pow_pos (by omega)
  have hp2 : (2 : Int) ^ i ≤ 2 ^ 62 := by exact_mod_cast Nat.pow_le_pow_right (n := 2) (by omega) (show i ≤ 62 by omega)
  have hm : min (Int.ofNat i).toNat IntKind.i64.bits = i := by show min i 64 = i; omega
  show Sc.int (IntKind.i64.wrap (IntKind.i64.wrap (bitsOp k (fun a b => a &&& b) (y.den ρ).asInt 1) * 2 ^ (min (Int.ofNat i).toNat IntKind.i64.bits))) = Sc.int (match (bitsOp k (fun a b => a &&& b) (y.den ρ).asInt 1 == 1) with | true => 2 ^ i | false => 0)
  rw [hm]
  congr 1
  rcases and_one k (y.den ρ).asInt with h | h <;> rw [h]
  · rw [wrap_small (n := 0) (by omega) (by omega), Int.zero_mul, wrap_small (by omega) (by omega)]; rfl
  · rw [wrap_small (n := 1) (by omega) (by omega), Int.one_mul, wrap_small (by omega) (by omega)]; rfl

theorem iteNum_den (ρ : Env) (c : Tm) (p : Int) : (iteNum c p).den ρ = (match (c.den ρ).asBool with | true => .int p | false => .int 0) := by
  unfold iteNum
  split
  · rename_i k y
    split
    · rename_i p
      split
      · rename_i i hi
        obtain ⟨rfl, hi'⟩ := pow63_eq hi
        rw [shl_bit_den ρ k y hi']
        have e : Int.ofNat (2 ^ i) = (2 : Int) ^ i := by simp
        rw [e]
        cases (Tm.den ρ (Tm.op2 .eq (.op2 (.and k) y (.num 1)) (.num 1))).asBool <;> rfl
      · simp only [Tm.den]; cases (Op2.eq.ev (Op2.ev (.and k) (y.den ρ) (.int 1)) (.int 1)).asBool <;> rfl
    · rename_i q
      split
      · rename_i i hi
        obtain ⟨hq, hi⟩ := pow63_eq hi
        have hp : (0 : Int) < 2 ^ i := Int.pow_pos (by omega)
        have hp2 : (2 : Int) ^ i ≤ 2 ^ 62 := by exact_mod_cast Nat.pow_le_pow_right (n := 2) (by omega) (show i ≤ 62 by omega)
        have e : Int.negSucc q = -(2 : Int) ^ i := by
          have : ((q + 1 : Nat) : Int) = 2 ^ i := by rw [hq]; simp
          rw [Int.negSucc_eq]; omega
        have := shl_bit_den ρ k y hi
        rw [show (Tm.op2 (.sub .i64) (.num 0) (.op2 (.shl .i64) (.op1 (.conv .i64) (.op2 (.and k) y (.num 1))) (.num (.ofNat i)))).den ρ = .int (IntKind.i64.wrap (0 - ((Tm.op2 (.shl .i64) (.op1 (.conv .i64) (.op2 (.and k) y (.num 1))) (.num (.ofNat i))).den ρ).asInt)) from rfl, this, e]
        cases (Tm.den ρ (Tm.op2 .eq (.op2 (.and k) y (.num 1)) (.num 1))).asBool
        · show Sc.int (IntKind.i64.wrap (0 - 0)) = Sc.int 0
          rw [wrap_small (by omega) (by omega)]; rfl
        · show Sc.int (IntKind.i64.wrap (0 - 2 ^ i)) = Sc.int (-2 ^ i)
          rw [wrap_small (by omega) (by omega)]; congr 1; omega
      · simp only [Tm.den]; cases (Op2.eq.ev (Op2.ev (.and k) (y.den ρ) (.int 1)) (.int 1)).asBool <;> rfl
  · simp only [Tm.den]; cases (c.den ρ).asBool <;> rfl

theorem iteSum_den (ρ : Env) (c a b : Tm) : (iteSum c a b).den ρ = (match (c.den ρ).asBool with | true => a.den ρ | false => b.den ρ) := by
  have plain : ∀ a b : Tm, (Tm.ite c a b).den ρ = (match (c.den ρ).asBool with | true => a.den ρ | false => b.den ρ) := by
    intro a b; simp only [Tm.den]; cases (c.den ρ).asBool <;> rfl
  unfold iteSum
  split
  · rename_i v p
    split
    · rename_i hb
      split
      · rename_i e
        subst e
        obtain ⟨h0, h1, h2⟩ := in64_ok ρ _ hb
        rw [show (Tm.op2 (.add .i64) v (iteNum c p)).den ρ = .int (IntKind.i64.wrap ((v.den ρ).asInt + ((iteNum c p).den ρ).asInt)) from rfl, iteNum_den]
        cases (c.den ρ).asBool
        · show Sc.int (IntKind.i64.wrap ((v.den ρ).asInt + 0)) = v.den ρ
          rw [Int.add_zero, wrap_small h1 h2]; exact h0.symm
        · rfl
      · exact plain _ _
    · exact plain _ _
  · rename_i p
    split
    · rw [iteNum_den]; cases (c.den ρ).asBool <;> rfl
    · exact plain _ _
  · exact plain _ _

theorem mkIte_den (ρ : Env) (c a b : Tm) : (mkIte c a b).den ρ = (match (c.den ρ).asBool with | true => a.den ρ | false => b.den ρ) := by
  unfold mkIte
  split
  · rfl
  · rfl
  · split
    · rename_i e; subst e; cases (c.den ρ).asBool <;> rfl
    · exact iteSum_den ρ c a b

def mkNot (a : Tm) : Tm :=
  match a with
  | .bit b => .bit (!b)
  | .op1 .not b => b
  | _ => .op1 .not a

theorem mkNot_den (ρ : Env) (a : Tm) : ((mkNot a).den ρ).asBool = !(a.den ρ).asBool := by
  unfold mkNot
  split <;> simp [Tm.den, Op1.ev]

def mkAnd (a b : Tm) : Tm :=
  match a, b with
  | .bit true, b => b
  | .bit false, _ => .bit false
  | a, .bit true => a
  | _, .bit false => .bit false
  | a, b => if a = b then a else .op2 .band a b

theorem mkAnd_den (ρ : Env) (a b : Tm) : ((mkAnd a b).den ρ).asBool = ((a.den ρ).asBool && (b.den ρ).asBool) := by
  unfold mkAnd
  split
  · simp [Tm.den]
  · simp [Tm.den]
  · simp [Tm.den]
  · simp [Tm.den]
  · split
    · rename_i e; subst e; simp
    · simp [Tm.den, Op2.ev]

def mkOr (a b : Tm) : Tm :=
  match a, b with
  | .bit false, b => b
  | .bit true, _ => .bit true
  | a, .bit false => a
  | _, .bit true => .bit true
  | a, b => if a = b then a else .op2 .bor a b

theorem mkOr_den (ρ : Env) (a b : Tm) : ((mkOr a b).den ρ).asBool = ((a.den ρ).asBool || (b.den ρ).asBool) := by
  unfold mkOr
  split
  · simp [Tm.den]
  · simp [Tm.den]
  · simp [Tm.den]
  · simp [Tm.den]
  · split
    · rename_i e; subst e; simp
    · simp [Tm.den, Op2.ev]

/-- A choice between two truths. -/
def mkIteB (c a b : Tm) : Tm :=
  match c with
  | .bit true => a
  | .bit false => b
  | _ =>
    if a = b then a
    else match a, b with
      | .bit true, b => mkOr c b
      | .bit false, b => mkAnd (mkNot c) b
      | a, .bit false => mkAnd c a
      | a, .bit true => mkOr (mkNot c) a
      | a, b => .ite c a b

theorem mkIteB_den (ρ : Env) (c a b : Tm) : ((mkIteB c a b).den ρ).asBool = (match (c.den ρ).asBool with | true => (a.den ρ).asBool | false => (b.den ρ).asBool) := by
  unfold mkIteB
  split
  · rfl
  · rfl
  · split
    · rename_i e; subst e; split <;> rfl
    · split
      · rw [mkOr_den]; cases (c.den ρ).asBool <;> simp [Tm.den]
      · rw [mkAnd_den, mkNot_den]; cases (c.den ρ).asBool <;> simp [Tm.den]
      · rw [mkAnd_den]; cases (c.den ρ).asBool <;> simp [Tm.den]
      · rw [mkOr_den, mkNot_den]; cases (c.den ρ).asBool <;> simp [Tm.den]
      · simp only [Tm.den]; cases (Tm.den ρ c).asBool <;> rfl

/-- Does a truth that holds say that 'c' is 'w'? -/
def saysPlain (c : Tm) (w : Bool) (t : Tm) : Bool :=
  match w with
  | true => decide (t = c)
  | false => decide (t = .op1 .not c) || decide (c = .op1 .not t)

theorem saysPlain_den (ρ : Env) (c : Tm) (w : Bool) (t : Tm) (h : saysPlain c w t = true) (ht : (t.den ρ).asBool = true) : (c.den ρ).asBool = w := by
  unfold saysPlain at h
  split at h
  · simp only [decide_eq_true_eq] at h; subst h; exact ht
  · simp only [Bool.or_eq_true, decide_eq_true_eq] at h
    rcases h with h | h
    · subst h; simpa [Tm.den, Op1.ev] using ht
    · subst h; simp [Tm.den, Op1.ev, ht]

/-- Does a truth that is so (p), or is not, say that 'c' is 'w'? -/
def plainG (c : Tm) (w p : Bool) (t : Tm) : Bool :=
  match p == w with
  | true => decide (t = c)
  | false => decide (c = .op1 .not t)

theorem plainG_den (ρ : Env) (c : Tm) (w p : Bool) (t : Tm) (h : plainG c w p t = true) (ht : (t.den ρ).asBool = p) : (c.den ρ).asBool = w := by
  unfold plainG at h
  split at h
  · rename_i e
    simp only [decide_eq_true_eq] at h; subst h
    rw [ht]; exact eq_of_beq e
  · rename_i e
    simp only [decide_eq_true_eq] at h; subst h
    simp only [Tm.den, Op1.ev, Sc.asBool_bool, ht]
    cases p <;> cases w <;> simp_all

def saysG (c : Tm) (w : Bool) : Bool → Tm → Bool
  | p, .op2 o a b => plainG c w p (.op2 o a b) || (match p, o with
    | true, .band => saysG c w true a || saysG c w true b
    | false, .bor => saysG c w false a || saysG c w false b
    | _, _ => false)
  | p, .op1 o a => plainG c w p (.op1 o a) || (match o with
    | .not => saysG c w (!p) a
    | _ => false)
  | p, t => plainG c w p t

theorem saysG_den (ρ : Env) (c : Tm) (w : Bool) : ∀ (g : Tm) (p : Bool), saysG c w p g = true → (g.den ρ).asBool = p → (c.den ρ).asBool = w := by
  intro g
  induction g with
  | op2 o a b iha ihb =>
    intro p h hg
    unfold saysG at h
    simp only [Bool.or_eq_true] at h
    rcases h with h | h
    · exact plainG_den ρ c w p _ h hg
    · split at h
      · simp only [Tm.den, Op2.ev, Sc.asBool_bool, Bool.and_eq_true] at hg
        simp only [Bool.or_eq_true] at h
        rcases h with h | h
        · exact iha _ h hg.1
        · exact ihb _ h hg.2
      · simp only [Tm.den, Op2.ev, Sc.asBool_bool, Bool.or_eq_false_iff] at hg
        simp only [Bool.or_eq_true] at h
        rcases h with h | h
        · exact iha _ h hg.1
        · exact ihb _ h hg.2
      · cases h
  | op1 o a iha =>
    intro p h hg
    unfold saysG at h
    simp only [Bool.or_eq_true] at h
    rcases h with h | h
    · exact plainG_den ρ c w p _ h hg
    · split at h
      · simp only [Tm.den, Op1.ev, Sc.asBool_bool] at hg
        exact iha _ h (by rw [← hg, Bool.not_not])
      · cases h
  | _ => intro p h hg; exact plainG_den ρ c w p _ (by simpa [saysG] using h) hg

def saysIt (c : Tm) (w : Bool) (g : Tm) : Bool := saysG c w true g

theorem saysIt_den (ρ : Env) (c : Tm) (w : Bool) (g : Tm) (h : saysIt c w g = true) (hg : (g.den ρ).asBool = true) : (c.den ρ).asBool = w := saysG_den ρ c w g true h hg

end
end Go.Sx

/- Operations that are others by their operands' form. -/
namespace Go.Sx
noncomputable section

/-- The term's number is one of 32 bits. -/
def is32 : Tm → Bool
  | .num n => decide (0 ≤ n) && decide (n < 4294967296)
  | .op1 (.conv k) _ => decide (k = .u32 ∨ k = .u8)
  | .op2 (.and k) _ _ => decide (k = .u32)
  | .op2 (.or k) _ _ => decide (k = .u32)
  | .op2 (.xor k) _ _ => decide (k = .u32)
  | .op2 (.add k) _ _ => decide (k = .u32)
  | .op2 (.sub k) _ _ => decide (k = .u32)
  | .op2 (.mul k) _ _ => decide (k = .u32)
  | .op2 (.shl k) _ _ => decide (k = .u32)
  | .op2 (.andNot k) _ _ => decide (k = .u32)
  | .op2 (.shr _) a _ => is32 a
  | .ite _ a b => is32 a && is32 b
  | _ => false

theorem fdiv_within {n m : Int} (k : Nat) (h0 : 0 ≤ n) (h1 : n < m) : 0 ≤ n.fdiv (2 ^ k) ∧ n.fdiv (2 ^ k) < m := by
  have hp : (0 : Int) < 2 ^ k := Int.pow_pos (by omega)
  rw [Int.fdiv_eq_ediv_of_nonneg _ (Int.le_of_lt hp)]
  have := Int.ediv_le_self (2 ^ k) h0
  exact ⟨Int.ediv_nonneg h0 (Int.le_of_lt hp), by omega⟩

theorem is32_ok (ρ : Env) : ∀ t : Tm, is32 t = true → 0 ≤ (t.den ρ).asInt ∧ (t.den ρ).asInt < 4294967296 := by
  intro t
  have w : ∀ n, 0 ≤ IntKind.u32.wrap n ∧ IntKind.u32.wrap n < 4294967296 := fun n => u32_has n
  induction t with
  | num n => intro h; simpa [is32, Tm.den] using h
  | op1 o a _ =>
    intro h
    cases o with
    | conv k =>
      simp only [is32, decide_eq_true_eq] at h
      rcases h with rfl | rfl
      · exact w _
      · have := u8_has (a.den ρ).asInt
        exact ⟨this.1, by show IntKind.u8.wrap _ < _; omega⟩
    | _ => simp [is32] at h
  | op2 o a b iha ihb =>
    intro h
    cases o with
    | shr k => exact fdiv_within _ (iha h).1 (iha h).2
    | and k => simp only [is32, decide_eq_true_eq] at h; subst h; exact w _
    | or k => simp only [is32, decide_eq_true_eq] at h; subst h; exact w _
    | xor k => simp only [is32, decide_eq_true_eq] at h; subst h; exact w _
    | andNot k => simp only [is32, decide_eq_true_eq] at h; subst h; exact w _
    | add k => simp only [is32, decide_eq_true_eq] at h; subst h; exact w _
    | sub k => simp only [is32, decide_eq_true_eq] at h; subst h; exact w _
    | mul k => simp only [is32, decide_eq_true_eq] at h; subst h; exact w _
    | shl k => simp only [is32, decide_eq_true_eq] at h; subst h; exact w _
    | _ => simp [is32] at h
  | ite c a b _ iha ihb =>
    intro h
    simp only [is32, Bool.and_eq_true] at h
    simp only [Tm.den]
    cases (c.den ρ).asBool
    · exact ihb h.2
    · exact iha h.1
  | _ => intro h; simp [is32] at h

/-- The term's number is not below 0, and one of 63 bits. -/
def is63 (a : Tm) : Bool := in64 a && (let x := kw 8 a; Nat.blt (Nat.lor x.1 x.2) 9223372036854775808)

theorem is63_ok (ρ : Env) {a : Tm} (h : is63 a = true) : 0 ≤ (a.den ρ).asInt ∧ (a.den ρ).asInt < 2 ^ 63 := by
  simp only [is63, Bool.and_eq_true] at h
  obtain ⟨_, h1, h2⟩ := in64_ok ρ a h.1
  exact ⟨(kw_ok ρ 8 a).pos (blt_lt h.2) h1 h2, h2⟩

/-- All bits that the term may have are among some. -/
def within (a : Tm) (m : Nat) : Bool := let x := kw 8 a; Nat.beq (Nat.lor (Nat.lor x.1 x.2) m) m

theorem within_bit (ρ : Env) {a : Tm} {m i : Nat} (h : within a m = true) (hi : i < 64) (hb : bitI (a.den ρ).asInt i = true) : m.testBit i = true := by
  have h := Nat.eq_of_beq_eq_true h
  have hk := kw_ok ρ 8 a
  rw [← h, lor_bit, lor_bit]
  cases h1 : (kw 8 a).1.testBit i with
  | true => simp
  | false => rw [← hk.bits i hi h1, hb]; simp

def foldAnd (k : IntKind) (a : Tm) (m : Nat) : Tm :=
  match k with
  | .u32 => match is32 a && within a m with
    | true => a
    | false => mk2 (.and .u32) a (.num (.ofNat m))
  | .i64 => match in64 a && Nat.blt m 9223372036854775808 && within a m with
    | true => a
    | false => mk2 (.and .i64) a (.num (.ofNat m))
  | k => mk2 (.and k) a (.num (.ofNat m))

theorem has32 {n : Int} (h0 : 0 ≤ n) (h1 : n < 4294967296) : kHas .u32 n := ⟨h0, h1⟩
theorem has64 {n : Int} (h0 : -2 ^ 63 ≤ n) (h1 : n < 2 ^ 63) : kHas .i64 n := ⟨h0, h1⟩

theorem andF_bit (k : IntKind) (x y : Int) {i : Nat} (hi : i < k.bits) : bitI (bitsOp k (fun a b => a &&& b) x y) i = (bitI x i && bitI y i) := bitsOp_bit k _ (· && ·) (by intro a b i _; simp) x y i hi

theorem andNotF_bit (k : IntKind) (x y : Int) {i : Nat} (hi : i < k.bits) : bitI (bitsOp k (fun a b => a &&& ~~~b) x y) i = (bitI x i && !bitI y i) := bitsOp_bit k _ (fun a b => a && !b) (by intro a b i hi; simp [hi]) x y i hi

theorem foldAnd_den (ρ : Env) (k : IntKind) (a : Tm) (m : Nat) : ((foldAnd k a m).den ρ).asInt = bitsOp k (fun a b => a &&& b) (a.den ρ).asInt (.ofNat m) := by
  have plain : ∀ k, ((mk2 (.and k) a (.num (.ofNat m))).den ρ).asInt = bitsOp k (fun a b => a &&& b) (a.den ρ).asInt (.ofNat m) := fun k => by rw [mk2_den]; rfl
  unfold foldAnd
  split
  · split
    · rename_i h
      rw [Bool.and_eq_true] at h
      obtain ⟨h0, h1⟩ := is32_ok ρ a h.1
      refine eq_of_has (k := .u32) (has32 h0 h1) (bitsOp_has _ _ _ _) fun i hi => ?_
      rw [andF_bit _ _ _ hi]
      cases hb : bitI (a.den ρ).asInt i
      · rfl
      · have hi : i < 32 := hi
        have := within_bit ρ h.2 (by omega) hb
        rw [show bitI (.ofNat m) i = m.testBit i from bitI_nat m i, this]; rfl
    · exact plain _
  · split
    · rename_i h
      rw [Bool.and_eq_true, Bool.and_eq_true] at h
      obtain ⟨_, h0, h1⟩ := in64_ok ρ a h.1.1
      refine eq_of_has (k := .i64) (has64 h0 h1) (bitsOp_has _ _ _ _) fun i hi => ?_
      rw [andF_bit _ _ _ hi]
      cases hb : bitI (a.den ρ).asInt i
      · rfl
      · have hi : i < 64 := hi
        have := within_bit ρ h.2 (by omega) hb
        rw [show bitI (.ofNat m) i = m.testBit i from bitI_nat m i, this]; rfl
    · exact plain _
  · exact plain _

/-- A remainder by a power of two: the kind. -/
def foldRem (a : Tm) (c : Nat) : Option IntKind :=
  match kPow c with
  | some _ => match is32 a && Nat.ble c 4294967296 with
    | true => some .u32
    | false => match is63 a with
      | true => some .i64
      | false => none
  | none => none

theorem low_bit (s i : Nat) : bitI (.ofNat (2 ^ s - 1)) i = decide (i < s) := by
  rw [show bitI (.ofNat (2 ^ s - 1)) i = (2 ^ s - 1).testBit i from bitI_nat _ i, Nat.testBit_two_pow_sub_one]

theorem rem_and {k : IntKind} {n : Int} {s : Nat} (h0 : 0 ≤ n) (hk : kHas k n) : n.tmod (.ofNat (2 ^ s)) = bitsOp k (fun a b => a &&& b) n (.ofNat (2 ^ s - 1)) := by
  have e : (Int.ofNat (2 ^ s)) = (2 : Int) ^ s := by simp
  have hp : (0 : Int) < 2 ^ s := Int.pow_pos (by omega)
  rw [e, Int.tmod_eq_emod_of_nonneg h0]
  have m0 := Int.emod_nonneg n (Int.ne_of_gt hp)
  have m1 := Int.emod_lt_of_pos n hp
  have m2 : n % 2 ^ s ≤ n := by
    have h1 := Int.mul_ediv_add_emod n (2 ^ s)
    have h2 := Int.mul_nonneg (Int.le_of_lt hp) (Int.ediv_nonneg h0 (Int.le_of_lt hp))
    omega
  refine eq_of_has (k := k) ?_ (bitsOp_has _ _ _ _) fun i hi => ?_
  · unfold kHas at hk ⊢
    have p1 : (0 : Int) < 2 ^ (k.bits - 1) := Int.pow_pos (by omega)
    split
    · rename_i hs; rw [hs] at hk; exact ⟨by omega, by have := hk.2; omega⟩
    · rename_i hs; rw [hs] at hk; exact ⟨m0, by have := hk.2; omega⟩
  · rw [andF_bit _ _ _ hi, low_bit]
    by_cases his : i < s
    · rw [bitI_emod _ _ _ his]; simp [his]
    · rw [bitI_high _ s i (by omega) m1 (by omega)]
      simp [his]; omega

def reT2 (o : Op2) (a b : Tm) : Tm :=
  match o, b with
  | .and k, .num (.ofNat m) => foldAnd k a m
  | .andNot .u32, .num (.ofNat m) => match Nat.blt m 4294967296 with
    | true => foldAnd .u32 a (4294967295 - m)
    | false => .op2 (.andNot .u32) a (.num (.ofNat m))
  | .rem, .num (.ofNat c) => match foldRem a c with
    | some k => foldAnd k a (c - 1)
    | none => .op2 .rem a (.num (.ofNat c))
  | .quo .i64, .num (.ofNat c) => match kPow c, is63 a with
    | some s, true => mk2 (.shr .i64) a (.num (.ofNat s))
    | _, _ => .op2 (.quo .i64) a (.num (.ofNat c))
  | .xor .u32, .num (.ofNat m) => match Nat.beq m 4294967295 with
    | true => mk1 (.compl .u32) a
    | false => .op2 (.xor .u32) a (.num (.ofNat m))
  | .add .u32, .num q => match a with
    | .op2 (.add .u32) x (.num p) => .op2 (.add .u32) x (.num (IntKind.u32.wrap (p + q)))
    | a => match decide (q = 0) && is32 a with
      | true => a
      | false => .op2 (.add .u32) a (.num q)
  | .sub .u32, .op2 (.and .u32) x (.num (.ofNat m)) => match decide (a = x) && is32 a && Nat.blt m 4294967296 with
    | true => foldAnd .u32 a (4294967295 - m)
    | false => .op2 (.sub .u32) a (.op2 (.and .u32) x (.num (.ofNat m)))
  | o, b => .op2 o a b

theorem not_bit {m i : Nat} (h : m < 4294967296) (hi : i < 32) : bitI (.ofNat (4294967295 - m)) i = !bitI (.ofNat m) i := by
  rw [show bitI (.ofNat (4294967295 - m)) i = (4294967295 - m).testBit i from bitI_nat _ i, show bitI (.ofNat m) i = m.testBit i from bitI_nat _ i]
  have := Nat.testBit_two_pow_sub_succ (x := m) (n := 32) (by omega) i
  rw [show 4294967295 - m = 2 ^ 32 - (m + 1) by omega, this]
  simp [hi]

theorem andNot_and (n : Int) {m : Nat} (h : m < 4294967296) : bitsOp .u32 (fun a b => a &&& ~~~b) n (.ofNat m) = bitsOp .u32 (fun a b => a &&& b) n (.ofNat (4294967295 - m)) := by
  refine eq_of_has (k := .u32) (bitsOp_has _ _ _ _) (bitsOp_has _ _ _ _) fun i hi => ?_
  rw [andF_bit _ _ _ hi, andNotF_bit _ _ _ hi, not_bit h hi]

theorem u32_nat (x : BitVec 32) : IntKind.u32.wrap x.toNat = x.toNat := by
  have := x.isLt
  show (x.toNat : Int) % 4294967296 = x.toNat
  omega

theorem sub_and {n : Int} {m : Int} (h0 : 0 ≤ n) (h1 : n < 4294967296) : IntKind.u32.wrap (n - bitsOp .u32 (fun a b => a &&& b) n m) = bitsOp .u32 (fun a b => a &&& ~~~b) n m := by
  unfold bitsOp
  show IntKind.u32.wrap (n - IntKind.u32.wrap ((BitVec.ofInt 32 n) &&& (BitVec.ofInt 32 m)).toNat) = IntKind.u32.wrap ((BitVec.ofInt 32 n) &&& ~~~(BitVec.ofInt 32 m)).toNat
  generalize BitVec.ofInt 32 m = y
  have hn : n = (BitVec.ofInt 32 n).toNat := by
    rw [BitVec.toNat_ofInt]
    omega
  generalize BitVec.ofInt 32 n = x at *
  subst hn
  have e : (x &&& y) + (x &&& ~~~y) = x := by
    rw [BitVec.add_eq_or_of_and_eq_zero]
    · ext i hi; simp; cases x[i] <;> simp
    · ext i hi; simp; intro _ h; simp [h]
  have e2 : (x &&& y).toNat + (x &&& ~~~y).toNat = x.toNat := by
    have h := congrArg BitVec.toNat e
    rw [BitVec.toNat_add] at h
    have h3 : (x &&& y).toNat ≤ x.toNat := by rw [BitVec.toNat_and]; exact Nat.and_le_left
    have h4 : (x &&& ~~~y).toNat ≤ x.toNat := by rw [BitVec.toNat_and]; exact Nat.and_le_left
    have h5 := x.isLt
    omega
  rw [u32_nat, u32_nat]
  show ((x.toNat : Int) - (x &&& y).toNat) % 4294967296 = _
  have := (x &&& ~~~y).isLt
  omega

theorem reT2_den (ρ : Env) (o : Op2) (a b : Tm) : ((reT2 o a b).den ρ).asInt = (o.ev (a.den ρ) (b.den ρ)).asInt := by
  unfold reT2
  split
  · exact foldAnd_den ρ _ a _
  · split
    · rename_i m hm
      rw [foldAnd_den]; exact (andNot_and _ (blt_lt hm)).symm
    · rfl
  · rename_i c
    split
    · rename_i k hk
      rw [foldAnd_den]
      unfold foldRem at hk
      split at hk
      · rename_i s hs
        obtain ⟨rfl, _⟩ := kPow_eq hs
        split at hk
        · rename_i h32
          rw [Bool.and_eq_true] at h32
          simp only [Option.some.injEq] at hk; subst hk
          obtain ⟨h0, h1⟩ := is32_ok ρ a h32.1
          exact (rem_and h0 (has32 h0 h1)).symm
        · split at hk
          · rename_i h63
            simp only [Option.some.injEq] at hk; subst hk
            obtain ⟨h0, h1⟩ := is63_ok ρ h63
            exact (rem_and h0 (has64 (by omega) h1)).symm
          · cases hk
      · cases hk
    · rfl
  · rename_i c
    split
    · rename_i s hs h63
      obtain ⟨rfl, hlt⟩ := kPow_eq hs
      obtain ⟨h0, h1⟩ := is63_ok ρ h63
      rw [mk2_den]
      show (a.den ρ).asInt.fdiv (2 ^ (min (Int.ofNat s).toNat 64)) = IntKind.i64.wrap ((a.den ρ).asInt.tdiv (.ofNat (2 ^ s)))
      have e : (Int.ofNat (2 ^ s)) = (2 : Int) ^ s := by simp
      have hp : (0 : Int) < 2 ^ s := Int.pow_pos (by omega)
      have hm : min (Int.ofNat s).toNat 64 = s := by show min s 64 = s; omega
      rw [e, hm, Int.tdiv_eq_ediv_of_nonneg h0, Int.fdiv_eq_ediv_of_nonneg _ (Int.le_of_lt hp)]
      have d0 := Int.ediv_nonneg h0 (Int.le_of_lt hp)
      have d1 := Int.ediv_le_self (2 ^ s) h0
      rw [wrap_small (by omega) (by omega)]
    · rfl
  · split
    · rename_i m hm
      have hm := Nat.eq_of_beq_eq_true hm
      subst hm
      rw [mk1_den]
      show complOp .u32 _ = bitsOp .u32 (fun a b => a ^^^ b) _ _
      show IntKind.u32.wrap ((BitVec.ofInt 32 4294967295) ^^^ (BitVec.ofInt 32 (a.den ρ).asInt)).toNat = IntKind.u32.wrap ((BitVec.ofInt 32 (a.den ρ).asInt) ^^^ (BitVec.ofInt 32 4294967295)).toNat
      rw [BitVec.xor_comm]
    · rfl
  · rename_i q
    split
    · rename_i x p
      show IntKind.u32.wrap ((x.den ρ).asInt + IntKind.u32.wrap (p + q)) = IntKind.u32.wrap (IntKind.u32.wrap ((x.den ρ).asInt + p) + q)
      have w : ∀ n, IntKind.u32.wrap n = n % 4294967296 := fun _ => rfl
      simp only [w]
      omega
    · split
      · rename_i h
        simp only [Bool.and_eq_true, decide_eq_true_eq] at h
        obtain ⟨rfl, h⟩ := h
        obtain ⟨h0, h1⟩ := is32_ok ρ _ h
        show _ = IntKind.u32.wrap (_ + 0)
        have w : ∀ n, IntKind.u32.wrap n = n % 4294967296 := fun _ => rfl
        rw [w]
        omega
      · rfl
  · split
    · rename_i x m h
      simp only [Bool.and_eq_true, decide_eq_true_eq] at h
      obtain ⟨⟨rfl, h32⟩, hm⟩ := h
      obtain ⟨h0, h1⟩ := is32_ok ρ _ h32
      rw [foldAnd_den, ← andNot_and _ (blt_lt hm)]
      exact (sub_and h0 h1).symm
    · rfl
  · rfl

/-- An operation is another one by its operands' form. -/
def reT : Tm → Tm
  | .op2 o a b => reT2 o a b
  | t => t

theorem reT_den (ρ : Env) (t : Tm) : ((reT t).den ρ).asInt = (t.den ρ).asInt := by
  unfold reT
  split
  · exact reT2_den ρ _ _ _
  · rfl

end
end Go.Sx

/- Symbolic values, what they stand for, and the relation between a symbolic heap and a world. -/
namespace Go.Sx
noncomputable section
open Go.RowKit

inductive Cap where
  | known (n : Nat)
  | of (b : Nat)
  /-- what a grown one has room for, but for so many at its head -/
  | sub (b k : Nat)
  deriving DecidableEq, Inhabited, Repr

inductive SVal where
  | int (k : IntKind) (t : Tm)
  | bool (t : Tm)
  | str (t : Tm)
  | ptr (b off : Nat)
  | nilptr
  | gptr (g off : Nat)
  | slice (b off len : Nat) (cap : Cap)
  | nilslice
  | agg (l : SVal)
  | tup (l : SVal)
  | func (fn : Fn) (first captured : SVal)
  | nilfunc
  | iface (t : TypeId) (v : SVal)
  | nilIface
  | nilmap
  | val (i : Nat)
  | ptrI (b off : Nat) (i : Tm) (z : Nat)
  | abs (n : Nat)
  | ptrA (n off : Nat) (i : Tm) (z : Nat)
  | nil
  | cons (a r : SVal)
  deriving DecidableEq, Inhabited, Repr

/-- A value of one cell. -/
structure OneV where
  v : Value
  one : v.oneCell' = true

/-- Which blocks the names stand for, and how many elements the grown ones have room for. -/
structure Nm where
  blk : Nat → Nat
  cap : Nat → Nat
  /-- the value of a name that stands for a datum -/
  val : Nat → OneV
  /-- the blocks that a name alone may change -/
  foot : Nat → Nat → Prop

def Cap.ev (ι : Nm) : Cap → Nat
  | .known n => n
  | .of b => ι.cap b
  | .sub b k => ι.cap b - k

/-- Where a slice's cells begin. -/
def rowBase : Value → Nat × Nat
  | .slice (some a) _ _ => (a.block, a.off)
  | _ => (0, 0)
/-- The address of a cell of a slice. -/
def rowPtr (v : Value) (o : Nat) : Value := .pointer (some ⟨(rowBase v).1, (rowBase v).2 + o, none⟩)

mutual
def SVal.conc (ρ : Env) (ι : Nm) : SVal → Value
  | .int k t => .int k (t.den ρ).asInt
  | .bool t => .bool (t.den ρ).asBool
  | .str t => .string ⟨(t.den ρ).asStr.toArray⟩
  | .ptr b off => .pointer (some ⟨ι.blk b, off, none⟩)
  | .nilptr => .pointer none
  | .gptr g off => .pointer (some ⟨g, off, none⟩)
  | .slice b off len cap => .slice (some ⟨ι.blk b, off, none⟩) len (cap.ev ι)
  | .nilslice => .slice none 0 0
  | .agg l => .agg (l.concL ρ ι).toArray
  | .tup l => .tuple (l.concL ρ ι).toArray
  | .func fn first captured => .func fn (first.concL ρ ι).toArray (captured.concL ρ ι).toArray
  | .nilfunc => .nilFunc
  | .iface t v => .iface t (v.conc ρ ι)
  | .nilIface => .nilIface
  | .nilmap => .map none
  | .val i => ρ.val i
  | .ptrI b off i z => .pointer (some ⟨ι.blk b, off + (i.den ρ).asInt.toNat * z, none⟩)
  | .abs n => (ι.val n).v
  | .ptrA n off i z => rowPtr (ι.val n).v ((i.den ρ).asInt.toNat * z + off)
  | .nil => undef
  | .cons _ _ => undef
def SVal.concL (ρ : Env) (ι : Nm) : SVal → List Value
  | .cons a r => a.conc ρ ι :: r.concL ρ ι
  | _ => []
end

/-- All names are below n. -/
def SVal.sc (n : Nat) : SVal → Bool
  | .ptr b _ => decide (b < n)
  | .slice b _ _ c => decide (b < n) && (match c with | .known _ => true | .of b => decide (b < n) | .sub b _ => decide (b < n))
  | .agg l => l.sc n
  | .tup l => l.sc n
  | .func _ a b => a.sc n && b.sc n
  | .iface _ v => v.sc n
  | .ptrI b _ _ _ => decide (b < n)
  | .abs b => decide (b < n)
  | .ptrA b _ _ _ => decide (b < n)
  | .cons a r => a.sc n && r.sc n
  | _ => true

def Nm.Ext (n : Nat) (ι ι' : Nm) : Prop := ∀ m, m < n → ι'.blk m = ι.blk m ∧ ι'.cap m = ι.cap m ∧ ι'.val m = ι.val m ∧ ι'.foot m = ι.foot m

theorem Nm.Ext.refl (n : Nat) (ι : Nm) : Nm.Ext n ι ι := fun _ _ => ⟨rfl, rfl, rfl, rfl⟩
theorem Nm.Ext.trans {n m : Nat} {a b c : Nm} (h : Nm.Ext n a b) (hnm : n ≤ m) (k : Nm.Ext m b c) : Nm.Ext n a c := fun i hi =>
  have hk := k i (by omega)
  ⟨hk.1.trans (h i hi).1, hk.2.1.trans (h i hi).2.1, hk.2.2.1.trans (h i hi).2.2.1, hk.2.2.2.trans (h i hi).2.2.2⟩
/-- A name stands for a block. -/
def Nm.put (ι : Nm) (n b c : Nat) : Nm := { blk := fun m => if m = n then b else ι.blk m, cap := fun m => if m = n then c else ι.cap m, val := ι.val, foot := fun m => if m = n then (· = b) else ι.foot m }
theorem Nm.ext_put (ι : Nm) (n b c : Nat) : Nm.Ext n ι (ι.put n b c) := fun m hm => by simp [Nm.put, Nat.ne_of_lt hm]
/-- A name stands for a datum. -/
def Nm.putV (ι : Nm) (n : Nat) (v : OneV) (F : Nat → Prop) : Nm := { blk := ι.blk, cap := ι.cap, val := fun m => if m = n then v else ι.val m, foot := fun m => if m = n then F else ι.foot m }
theorem Nm.ext_putV (ι : Nm) (n : Nat) (v : OneV) (F : Nat → Prop) : Nm.Ext n ι (ι.putV n v F) := fun m hm => by simp [Nm.putV, Nat.ne_of_lt hm]
theorem Nm.Ext.mono {n m : Nat} {a b : Nm} (h : Nm.Ext m a b) (hnm : n ≤ m) : Nm.Ext n a b := fun i hi => h i (by omega)

theorem SVal.sc_mono {n m : Nat} (hnm : n ≤ m) : ∀ v : SVal, v.sc n = true → v.sc m = true := by
  intro v
  induction v with
  | slice b off len c => 
    cases c <;> simp only [SVal.sc, Bool.and_eq_true, decide_eq_true_eq, and_true] <;> omega
  | ptr b off => simp only [SVal.sc, decide_eq_true_eq]; omega
  | ptrI b off i z => simp only [SVal.sc, decide_eq_true_eq]; omega
  | abs b => simp only [SVal.sc, decide_eq_true_eq]; omega
  | ptrA b off i z => simp only [SVal.sc, decide_eq_true_eq]; omega
  | func fn a b iha ihb => simp only [SVal.sc, Bool.and_eq_true]; exact fun h => ⟨iha h.1, ihb h.2⟩
  | cons a r iha ihr => simp only [SVal.sc, Bool.and_eq_true]; exact fun h => ⟨iha h.1, ihr h.2⟩
  | _ => simp_all [SVal.sc]

theorem SVal.conc_ext {n : Nat} {ρ : Env} {ι ι' : Nm} (h : Nm.Ext n ι ι') (v : SVal) : v.sc n = true → v.conc ρ ι' = v.conc ρ ι ∧ v.concL ρ ι' = v.concL ρ ι := by
  induction v with
  | ptr b off => simp only [SVal.sc, decide_eq_true_eq]; intro hb; exact ⟨by simp [SVal.conc, (h b hb).1], by simp [SVal.concL]⟩
  | slice b off len c =>
    cases c with
    | known m => simp only [SVal.sc, Bool.and_eq_true, decide_eq_true_eq, and_true]; intro hb; exact ⟨by simp [SVal.conc, (h b hb).1, Cap.ev], by simp [SVal.concL]⟩
    | of d => simp only [SVal.sc, Bool.and_eq_true, decide_eq_true_eq]; intro hb; exact ⟨by simp [SVal.conc, (h b hb.1).1, (h d hb.2).2.1, Cap.ev], by simp [SVal.concL]⟩
    | sub d k => simp only [SVal.sc, Bool.and_eq_true, decide_eq_true_eq]; intro hb; exact ⟨by simp [SVal.conc, (h b hb.1).1, (h d hb.2).2.1, Cap.ev], by simp [SVal.concL]⟩
  | agg l ih => simp only [SVal.sc]; intro hs; exact ⟨by simp [SVal.conc, (ih hs).2], by simp [SVal.concL]⟩
  | tup l ih => simp only [SVal.sc]; intro hs; exact ⟨by simp [SVal.conc, (ih hs).2], by simp [SVal.concL]⟩
  | func fn a b iha ihb => simp only [SVal.sc, Bool.and_eq_true]; intro hs; exact ⟨by simp [SVal.conc, (iha hs.1).2, (ihb hs.2).2], by simp [SVal.concL]⟩
  | iface t v ih => simp only [SVal.sc]; intro hs; exact ⟨by simp [SVal.conc, (ih hs).1], by simp [SVal.concL]⟩
  | ptrI b off i z => simp only [SVal.sc, decide_eq_true_eq]; intro hb; exact ⟨by simp [SVal.conc, (h b hb).1], by simp [SVal.concL]⟩
  | ptrA b off i z => simp only [SVal.sc, decide_eq_true_eq]; intro hb; exact ⟨by simp [SVal.conc, (h b hb).2.2.1], by simp [SVal.concL]⟩
  | abs b => simp only [SVal.sc, decide_eq_true_eq]; intro hb; exact ⟨by simp [SVal.conc, (h b hb).2.2.1], by simp [SVal.concL]⟩
  | cons a r iha ihr => simp only [SVal.sc, Bool.and_eq_true]; intro hs; exact ⟨by simp [SVal.conc], by simp [SVal.concL, (iha hs.1).1, (ihr hs.2).2]⟩
  | _ => intro _; exact ⟨by simp [SVal.conc], by simp [SVal.concL]⟩

/-! ### Lists of values -/

def SVal.len : SVal → Nat
  | .cons _ r => r.len + 1
  | _ => 0
def SVal.nthC : SVal → Nat → Option SVal
  | .cons a _, 0 => some a
  | .cons _ r, i + 1 => r.nthC i
  | _, _ => none
def SVal.setAtC : SVal → Nat → SVal → SVal
  | .cons _ r, 0, v => .cons v r
  | .cons a r, i + 1, v => .cons a (r.setAtC i v)
  | l, _, _ => l
/-- By the recursor itself: so the kernel walks the list at a tenth of the cost. -/
noncomputable def SVal.nth (l : SVal) : Nat → Option SVal :=
  SVal.rec (motive := fun _ => Nat → Option SVal) (fun _ _ _ => none) (fun _ _ => none) (fun _ _ => none) (fun _ _ _ => none) (fun _ => none) (fun _ _ _ => none) (fun _ _ _ _ _ => none) (fun _ => none) (fun _ _ _ => none) (fun _ _ _ => none) (fun _ _ _ _ _ _ => none) (fun _ => none) (fun _ _ _ _ => none) (fun _ => none) (fun _ => none) (fun _ _ => none) (fun _ _ _ _ _ => none) (fun _ _ => none) (fun _ _ _ _ _ => none) (fun _ => none)
    (fun a _ _ g i => Nat.rec (motive := fun _ => Option SVal) (some a) (fun j _ => g j) i) l
noncomputable def SVal.setAt (l : SVal) : Nat → SVal → SVal :=
  SVal.rec (motive := fun _ => Nat → SVal → SVal) (fun x0 x1 _ _ => .int x0 x1) (fun x0 _ _ => .bool x0) (fun x0 _ _ => .str x0) (fun x0 x1 _ _ => .ptr x0 x1) (fun _ _ => .nilptr) (fun x0 x1 _ _ => .gptr x0 x1) (fun x0 x1 x2 x3 _ _ => .slice x0 x1 x2 x3) (fun _ _ => .nilslice) (fun x0 _ _ _ => .agg x0) (fun x0 _ _ _ => .tup x0) (fun x0 x1 x2 _ _ _ _ => .func x0 x1 x2) (fun _ _ => .nilfunc) (fun x0 x1 _ _ _ => .iface x0 x1) (fun _ _ => .nilIface) (fun _ _ => .nilmap) (fun x0 _ _ => .val x0) (fun x0 x1 x2 x3 _ _ => .ptrI x0 x1 x2 x3) (fun x0 _ _ => .abs x0) (fun x0 x1 x2 x3 _ _ => .ptrA x0 x1 x2 x3) (fun _ _ => .nil)
    (fun a r _ g i v => Nat.rec (motive := fun _ => SVal) (.cons v r) (fun j _ => .cons a (g j v)) i) l
theorem SVal.nth_0 (a r : SVal) : (SVal.cons a r).nth 0 = some a := rfl
theorem SVal.nth_s (a r : SVal) (i : Nat) : (SVal.cons a r).nth (i + 1) = r.nth i := rfl
theorem SVal.setAt_0 (a r v : SVal) : (SVal.cons a r).setAt 0 v = .cons v r := rfl
theorem SVal.setAt_s (a r v : SVal) (i : Nat) : (SVal.cons a r).setAt (i + 1) v = .cons a (r.setAt i v) := rfl
theorem SVal.nth_eqC : @SVal.nth = @SVal.nthC := by
  funext l
  induction l with
  | cons a r _ ih => funext i; cases i with
    | zero => rfl
    | succ i => exact congrFun ih i
  | _ => funext i; simp [SVal.nthC, SVal.nth]
theorem SVal.setAt_eqC : @SVal.setAt = @SVal.setAtC := by
  funext l
  induction l with
  | cons a r _ ih => funext i v; cases i with
    | zero => rfl
    | succ i => exact congrArg (SVal.cons a) (congrFun (congrFun ih i) v)
  | _ => funext i v; simp [SVal.setAtC, SVal.setAt]
def SVal.app : SVal → SVal → SVal
  | .cons a r, l => .cons a (r.app l)
  | _, l => l
def SVal.dropN : SVal → Nat → SVal
  | .cons _ r, i + 1 => r.dropN i
  | l, _ => l
def SVal.takeN : SVal → Nat → SVal
  | .cons a r, i + 1 => .cons a (r.takeN i)
  | _, _ => .nil
def SVal.ofList : List SVal → SVal
  | [] => .nil
  | a :: l => .cons a (SVal.ofList l)
def SVal.toList : SVal → List SVal
  | .cons a r => a :: r.toList
  | _ => []

section
variable (ρ : Env) (ι : Nm)

theorem SVal.concL_length (l : SVal) : (l.concL ρ ι).length = l.len := by
  induction l <;> simp_all [SVal.concL, SVal.len]

theorem SVal.concL_nth (l : SVal) : ∀ i : Nat, (l.concL ρ ι)[i]? = (l.nth i).map (·.conc ρ ι) := by
  induction l with
  | cons a r _ ihr =>
    intro i
    cases i with
    | zero => simp [SVal.concL, SVal.nth_0]
    | succ i => simp [SVal.concL, SVal.nth_s, ihr]
  | _ => intro i; simp [SVal.concL, SVal.nth]

theorem SVal.concL_setAt (l : SVal) : ∀ (i : Nat) (v : SVal), (l.setAt i v).concL ρ ι = (l.concL ρ ι).set i (v.conc ρ ι) := by
  induction l with
  | cons a r _ ihr =>
    intro i v
    cases i with
    | zero => simp [SVal.concL, SVal.setAt_0]
    | succ i => simp [SVal.concL, SVal.setAt_s, ihr]
  | _ => intro i v; simp [SVal.concL, SVal.setAt]

theorem SVal.concL_app (l : SVal) (r : SVal) : (l.app r).concL ρ ι = l.concL ρ ι ++ r.concL ρ ι := by
  induction l with
  | cons a l' _ ih => simp [SVal.concL, SVal.app, ih]
  | _ => simp [SVal.concL, SVal.app]

theorem SVal.concL_dropN (l : SVal) : ∀ i : Nat, (l.dropN i).concL ρ ι = (l.concL ρ ι).drop i := by
  induction l with
  | cons a r _ ihr =>
    intro i
    cases i with
    | zero => simp [SVal.dropN]
    | succ i => simp [SVal.concL, SVal.dropN, ihr]
  | _ => intro i; simp [SVal.concL, SVal.dropN]

theorem SVal.concL_takeN (l : SVal) : ∀ i : Nat, (l.takeN i).concL ρ ι = (l.concL ρ ι).take i := by
  induction l with
  | cons a r _ ihr =>
    intro i
    cases i with
    | zero => simp [SVal.takeN, SVal.concL]
    | succ i => simp [SVal.concL, SVal.takeN, ihr]
  | _ => intro i; simp [SVal.concL, SVal.takeN]

theorem SVal.concL_ofList (l : List SVal) : (SVal.ofList l).concL ρ ι = l.map (·.conc ρ ι) := by
  induction l <;> simp_all [SVal.concL, SVal.ofList]

theorem SVal.concL_toList (l : SVal) : l.concL ρ ι = l.toList.map (·.conc ρ ι) := by
  induction l <;> simp_all [SVal.concL, SVal.toList]
end

theorem SVal.sc_nth {n : Nat} (l : SVal) : ∀ (i : Nat) (v : SVal), l.sc n = true → l.nth i = some v → v.sc n = true := by
  induction l with
  | cons a r _ ihr =>
    intro i v h hv
    simp only [SVal.sc, Bool.and_eq_true] at h
    cases i with
    | zero => simp only [SVal.nth_0, Option.some.injEq] at hv; subst hv; exact h.1
    | succ i => exact ihr i v h.2 hv
  | _ => intro i v _ hv; simp [SVal.nth] at hv

theorem SVal.sc_setAt {n : Nat} (l : SVal) : ∀ (i : Nat) (v : SVal), l.sc n = true → v.sc n = true → (l.setAt i v).sc n = true := by
  induction l with
  | cons a r _ ihr =>
    intro i v h hv
    simp only [SVal.sc, Bool.and_eq_true] at h
    cases i with
    | zero => simp [SVal.setAt_0, SVal.sc, hv, h.2]
    | succ i => simp [SVal.setAt_s, SVal.sc, h.1, ihr i v h.2 hv]
  | _ => intro i v h _; simpa [SVal.setAt] using h

theorem SVal.sc_app {n : Nat} (l r : SVal) (hl : l.sc n = true) (hr : r.sc n = true) : (l.app r).sc n = true := by
  induction l with
  | cons a l' _ ih => simp only [SVal.sc, Bool.and_eq_true] at hl; simp [SVal.app, SVal.sc, hl.1, ih hl.2]
  | _ => simpa [SVal.app] using hr

theorem SVal.sc_dropN {n : Nat} (l : SVal) : ∀ i : Nat, l.sc n = true → (l.dropN i).sc n = true := by
  induction l with
  | cons a r _ ihr =>
    intro i h
    cases i with
    | zero => simpa [SVal.dropN] using h
    | succ i => simp only [SVal.sc, Bool.and_eq_true] at h; exact ihr i h.2
  | _ => intro i h; simpa [SVal.dropN] using h

theorem SVal.sc_takeN {n : Nat} (l : SVal) : ∀ i : Nat, l.sc n = true → (l.takeN i).sc n = true := by
  induction l with
  | cons a r _ ihr =>
    intro i h
    cases i with
    | zero => simp [SVal.takeN, SVal.sc]
    | succ i => simp only [SVal.sc, Bool.and_eq_true] at h; simp [SVal.takeN, SVal.sc, h.1, ihr i h.2]
  | _ => intro i h; simp [SVal.takeN, SVal.sc]

theorem SVal.sc_ofList {n : Nat} (l : List SVal) (h : ∀ v ∈ l, v.sc n = true) : (SVal.ofList l).sc n = true := by
  induction l with
  | nil => rfl
  | cons a r ih => simp [SVal.ofList, SVal.sc, h a (by simp), ih (fun v hv => h v (by simp [hv]))]

theorem SVal.sc_toList {n : Nat} (l : SVal) (h : l.sc n = true) : ∀ v ∈ l.toList, v.sc n = true := by
  induction l with
  | cons a r _ ihr =>
    simp only [SVal.sc, Bool.and_eq_true] at h
    intro v hv
    simp only [SVal.toList, List.mem_cons] at hv
    rcases hv with rfl | hv
    · exact h.1
    · exact ihr h.2 v hv
  | _ => intro v hv; simp [SVal.toList] at hv

/-! ### The heap -/

/-- A block: its cells; how many cells an element has, where there may be more of them behind those that are known (none: no more). -/
structure Blk where
  cells : SVal
  elem : TypeId
  spare : Option Nat
  /-- a datum: is it the call's own; its kind; the datum -/
  abs : Option (Bool × Nat × Tm) := none
  deriving DecidableEq, Inhabited, Repr

abbrev Heap := List (Option Blk)

/-- Cells are such as the block says; c: for how many elements there is room. -/
def Blk.Fits (ρ : Env) (ι : Nm) (c : Nat) (b : Blk) (cs : Array Value) : Prop :=
  match b.spare with
  | none => cs.toList = b.cells.concL ρ ι
  | some z => (∃ rest, cs.toList = b.cells.concL ρ ι ++ rest) ∧ cs.size = c * z

theorem Blk.Fits.ext {ρ ι ι' c n} {b : Blk} {cs} (h : b.Fits ρ ι c cs) (e : Nm.Ext n ι ι') (hs : b.cells.sc n = true) : b.Fits ρ ι' c cs := by
  unfold Blk.Fits at *
  rw [(SVal.conc_ext (ρ := ρ) e b.cells hs).2]
  exact h

theorem Blk.Fits.starts {ρ ι c} {b : Blk} {cs} (h : b.Fits ρ ι c cs) : ∃ rest, cs.toList = b.cells.concL ρ ι ++ rest := by
  unfold Blk.Fits at h
  split at h
  · exact ⟨[], by simp [h]⟩
  · exact h.1

/-- The block of the world is such: or the datum (false: one that lies in blocks that nobody changes). -/
def Blk.Ok (ρ : Env) (_K : Nat → Prop) (ι : Nm) (n : Nat) (b : Blk) (w : World) : Prop :=
  match b.abs with
  | none => ι.foot n = (· = ι.blk n) ∧ ∃ cs : Array Value, w.heap[ι.blk n]? = some (.cells cs b.elem (0, 0)) ∧ b.Fits ρ ι (ι.cap n) cs
  | some (true, k, t) => b.cells = .nil ∧ ρ.ab.P k (t.den ρ) (ι.val n).v (ι.foot n) w
  | some (false, k, t) => b.cells = .nil ∧ (∀ q, ¬ ι.foot n q) ∧ ∃ F : Nat → Prop, ρ.ab.P k (t.den ρ) (ι.val n).v F w ∧ ∀ q, F q → ρ.ab.B q

/-- What is known of variables at package level: by their numbers, their cells. -/
abbrev Globs := List (Nat × SVal)

structure HR (ρ : Env) (G : Globs) (K : Nat → Prop) (w0 : World) (ι : Nm) (h : Heap) (w : World) : Prop where
  os : w.os = w0.os
  tape : w.tape = w0.tape
  output : w.output = w0.output
  size : w0.heap.size ≤ w.heap.size
  kept : ∀ k, K k → w.heap[k]? = w0.heap[k]?
  old : ∀ k, K k → k < w0.heap.size
  base : ∀ k, ρ.ab.B k → K k
  blocks : ∀ n b, h[n]? = some (some b) → (∀ q, ι.foot n q → ¬ K q) ∧ b.Ok ρ K ι n w ∧ b.cells.sc h.length = true
  inj : ∀ n m b c, h[n]? = some (some b) → h[m]? = some (some c) → ∀ q, ι.foot n q → ι.foot m q → n = m
  globs : ∀ g cs, (g, cs) ∈ G → K g ∧ cs.sc 0 = true ∧ ∃ arr t fz, w0.heap[g]? = some (.cells arr t fz) ∧ arr.toList = cs.concL ρ ι

section
variable {ρ : Env} {G : Globs} {K : Nat → Prop} {w0 w w' : World} {ι ι' : Nm} {h h' : Heap}

/-- A block that is one. -/
theorem HR.real (H : HR ρ G K w0 ι h w) {n : Nat} {b : Blk} (hb : h[n]? = some (some b)) (ha : b.abs = none) :
    ¬ K (ι.blk n) ∧ ι.foot n = (· = ι.blk n) ∧ (∃ cs : Array Value, w.heap[ι.blk n]? = some (.cells cs b.elem (0, 0)) ∧ b.Fits ρ ι (ι.cap n) cs) ∧ b.cells.sc h.length = true := by
  obtain ⟨h1, h2, h3⟩ := H.blocks n b hb
  unfold Blk.Ok at h2
  rw [ha] at h2
  exact ⟨h1 _ (by rw [h2.1]), h2.1, h2.2, h3⟩
/-- A block with cells is one. -/
theorem HR.real_of (H : HR ρ G K w0 ι h w) {n : Nat} {b : Blk} (hb : h[n]? = some (some b)) (hc : b.cells ≠ .nil) : b.abs = none := by
  obtain ⟨_, h2, _⟩ := H.blocks n b hb
  unfold Blk.Ok at h2
  match ha : b.abs with
  | none => rfl
  | some (true, k, t) => rw [ha] at h2; exact absurd h2.1 hc
  | some (false, k, t) => rw [ha] at h2; exact absurd h2.1 hc
theorem ne_nil_of_nth {c : SVal} {i : Nat} {v : SVal} (h : c.nth i = some v) : c ≠ .nil := by
  rintro rfl
  cases i <;> simp [SVal.nth] at h

/-- All blocks that a name alone may change are there. -/
theorem HR.footLt (H : HR ρ G K w0 ι h w) {n : Nat} {b : Blk} (hb : h[n]? = some (some b)) {q : Nat} (hq : ι.foot n q) : q < w.heap.size := by
  obtain ⟨_, h2, _⟩ := H.blocks n b hb
  unfold Blk.Ok at h2
  match ha : b.abs with
  | none =>
    rw [ha] at h2
    obtain ⟨h3, cs, h4, _⟩ := h2
    rw [h3] at hq
    obtain rfl : q = ι.blk n := hq
    exact (Array.getElem?_eq_some_iff.1 h4).1
  | some (true, k, t) => rw [ha] at h2; exact ρ.ab.lt _ _ _ _ _ _ h2.2 hq
  | some (false, k, t) => rw [ha] at h2; exact absurd hq (h2.2.1 q)

/-- What leaves a name's blocks and those that are kept alone leaves what it stands for. -/
theorem Blk.Ok.still {b : Blk} {n : Nat} {K' : Nat → Prop} (h : b.Ok ρ K ι n w) (hf : ∀ q, ι.foot n q → w'.heap[q]? = w.heap[q]?) (hk : ∀ q, K q → w'.heap[q]? = w.heap[q]?) (hB : ∀ q, ρ.ab.B q → K q) : b.Ok ρ K' ι n w' := by
  unfold Blk.Ok at *
  match ha : b.abs with
  | none =>
    rw [ha] at h
    obtain ⟨h1, cs, h2, h3⟩ := h
    exact ⟨h1, cs, by rw [hf _ (by rw [h1])]; exact h2, h3⟩
  | some (true, k, t) =>
    rw [ha] at h
    exact ⟨h.1, ρ.ab.stable _ _ _ _ _ _ h.2 hf⟩
  | some (false, k, t) =>
    rw [ha] at h
    obtain ⟨h0, h1, F, h2, h3⟩ := h
    exact ⟨h0, h1, F, ρ.ab.stable _ _ _ _ _ _ h2 (fun q hq => hk q (hB q (h3 q hq))), h3⟩

theorem Blk.Ok.names {b : Blk} {n : Nat} (h : b.Ok ρ K ι n w) (o : ι'.blk n = ι.blk n ∧ ι'.cap n = ι.cap n ∧ ι'.val n = ι.val n ∧ ι'.foot n = ι.foot n) (hc : b.cells.concL ρ ι' = b.cells.concL ρ ι) : b.Ok ρ K ι' n w := by
  obtain ⟨e1, e2, e3, e4⟩ := o
  unfold Blk.Ok at *
  match ha : b.abs with
  | none =>
    rw [ha] at h
    obtain ⟨h1, cs, h2, h3⟩ := h
    refine ⟨by rw [e4, e1]; exact h1, cs, by rw [e1]; exact h2, ?_⟩
    rw [e2]
    unfold Blk.Fits at *
    rw [hc]
    exact h3
  | some (true, k, t) =>
    rw [ha] at h
    exact ⟨h.1, by rw [e3, e4]; exact h.2⟩
  | some (false, k, t) =>
    rw [ha] at h
    exact ⟨h.1, by rw [e4]; exact h.2.1, by rw [e3]; exact h.2.2⟩

/-- Names may be changed above. -/
theorem Blk.Ok.ext {b : Blk} {n m : Nat} (h : b.Ok ρ K ι n w) (e : Nm.Ext m ι ι') (hn : n < m) (hs : b.cells.sc m = true) : b.Ok ρ K ι' n w := by
  obtain ⟨e1, e2, e3, e4⟩ := e n hn
  unfold Blk.Ok at *
  match ha : b.abs with
  | none =>
    rw [ha] at h
    obtain ⟨h1, cs, h2, h3⟩ := h
    exact ⟨by rw [e4, e1]; exact h1, cs, by rw [e1]; exact h2, by rw [e2]; exact h3.ext e hs⟩
  | some (true, k, t) =>
    rw [ha] at h
    exact ⟨h.1, by rw [e3, e4]; exact h.2⟩
  | some (false, k, t) =>
    rw [ha] at h
    exact ⟨h.1, by rw [e4]; exact h.2.1, by rw [e3]; exact h.2.2⟩

theorem HR.lt (H : HR ρ G K w0 ι h w) {n : Nat} {b : Blk} (hb : h[n]? = some (some b)) (ha : b.abs = none) : ι.blk n < w.heap.size := by
  obtain ⟨_, h1, _⟩ := H.real hb ha
  exact H.footLt hb (by rw [h1])

/-- Names may be changed above those that the heap knows. -/
theorem HR.ext (H : HR ρ G K w0 ι h w) (e : Nm.Ext h.length ι ι') : HR ρ G K w0 ι' h w := by
  refine ⟨H.os, H.tape, H.output, H.size, H.kept, H.old, H.base, ?_, ?_, ?_⟩
  · intro n b hb
    have hn : n < h.length := (List.getElem?_eq_some_iff.1 hb).1
    obtain ⟨h1, h2, h4⟩ := H.blocks n b hb
    exact ⟨by rw [(e n hn).2.2.2]; exact h1, h2.ext e hn h4, h4⟩
  · intro n m b c hb hc q hq hq'
    have hn : n < h.length := (List.getElem?_eq_some_iff.1 hb).1
    have hm : m < h.length := (List.getElem?_eq_some_iff.1 hc).1
    rw [(e n hn).2.2.2] at hq
    rw [(e m hm).2.2.2] at hq'
    exact H.inj n m b c hb hc q hq hq'
  · intro g cs hg
    obtain ⟨h1, h2, arr, t, fz, h3, h4⟩ := H.globs g cs hg
    refine ⟨h1, h2, arr, t, fz, h3, ?_⟩
    rw [h4]
    exact (SVal.conc_ext (ρ := ρ) (n := 0) (ι := ι) (ι' := ι') (fun m hm => by omega) cs h2).2.symm

theorem Nm.Ext.symm {n : Nat} (e : Nm.Ext n ι ι') : Nm.Ext n ι' ι := fun m hm => ⟨(e m hm).1.symm, (e m hm).2.1.symm, (e m hm).2.2.1.symm, (e m hm).2.2.2.symm⟩

/-- The heap may be forgotten in part. -/
theorem HR.forget (H : HR ρ G K w0 ι h w) (hl : ∀ (n : Nat) (b : Blk), h'[n]? = some (some b) → h[n]? = some (some b) ∧ b.cells.sc h'.length = true) : HR ρ G K w0 ι h' w :=
  ⟨H.os, H.tape, H.output, H.size, H.kept, H.old, H.base, fun n b hb => ⟨(H.blocks n b (hl n b hb).1).1, (H.blocks n b (hl n b hb).1).2.1, (hl n b hb).2⟩,
   fun n m b c hb hc he => H.inj n m b c (hl n b hb).1 (hl m c hc).1 he, H.globs⟩

/-- A draw changes nothing. -/
theorem HR.drew (H : HR ρ G K w0 ι h w) (n : Nat) : HR ρ G K w0 ι h { w with drawn := n } :=
  ⟨H.os, H.tape, H.output, H.size, H.kept, H.old, H.base,
   fun m b hb => let ⟨h1, h2, h4⟩ := H.blocks m b hb; ⟨h1, h2.still (fun _ _ => rfl) (fun _ _ => rfl) H.base, h4⟩, H.inj, H.globs⟩

theorem getElem?_append_new {b : Blk} {n : Nat} {b' : Blk} (hb' : (h ++ [some b])[n]? = some (some b')) : (h[n]? = some (some b')) ∨ (n = h.length ∧ b' = b) := by
  by_cases hn : n < h.length
  · rw [List.getElem?_append_left hn] at hb'; exact .inl hb'
  · by_cases hn' : n = h.length
    · subst hn'; simp at hb'; exact .inr ⟨rfl, hb'.symm⟩
    · rw [List.getElem?_append_right (by omega)] at hb'
      rw [List.getElem?_eq_none (by simp; omega)] at hb'; cases hb'

/-- A new name, in a world that has only grown. -/
theorem HR.new (H : HR ρ G K w0 ι h w) {w' : World} {ι' : Nm} (b : Blk) (e : Nm.Ext h.length ι ι') (hos : w'.os = w.os) (htape : w'.tape = w.tape) (hout : w'.output = w.output) (hsz : w.heap.size ≤ w'.heap.size)
    (hst : ∀ q, q < w.heap.size → w'.heap[q]? = w.heap[q]?) (hf : ∀ q, ι'.foot h.length q → w.heap.size ≤ q) (hok : b.Ok ρ K ι' h.length w') (hc : b.cells.sc (h.length + 1) = true) :
    HR ρ G K w0 ι' (h ++ [some b]) w' := by
  have H' := H.ext e
  refine ⟨hos.trans H.os, htape.trans H.tape, hout.trans H.output, Nat.le_trans H.size hsz, ?_, H.old, H.base, ?_, ?_, H'.globs⟩
  · intro k hk
    have := H.old k hk
    have := H.size
    rw [hst k (by omega)]
    exact H.kept k hk
  · intro n b' hb'
    rcases getElem?_append_new hb' with h1 | ⟨rfl, rfl⟩
    · obtain ⟨k1, k2, k4⟩ := H'.blocks n b' h1
      exact ⟨k1, k2.still (fun q hq => hst q (H'.footLt h1 hq)) (fun q hq => hst q (by have := H.old q hq; have := H.size; omega)) H.base, SVal.sc_mono (by simp) _ k4⟩
    · refine ⟨fun q hq hK => ?_, hok, by simpa using hc⟩
      have := hf q hq
      have := H.old q hK
      have := H.size
      omega
  · intro n m b1 b2 hb1 hb2 q hq hq'
    rcases getElem?_append_new hb1 with h1 | ⟨rfl, rfl⟩ <;> rcases getElem?_append_new hb2 with h2 | ⟨rfl, rfl⟩
    · exact H'.inj n m b1 b2 h1 h2 q hq hq'
    · have := H'.footLt h1 hq; have := hf q hq'; omega
    · have := H'.footLt h2 hq'; have := hf q hq; omega
    · rfl

/-- A new block. -/
theorem HR.alloc (H : HR ρ G K w0 ι h w) (b : Blk) (cs : Array Value) (c : Nat) (hc : b.cells.sc h.length = true) (hok : b.Fits ρ ι c cs) (ha : b.abs = none := by rfl) :
    HR ρ G K w0 (ι.put h.length w.heap.size c) (h ++ [some b]) (w.alloc (.cells cs b.elem)) := by
  have e := Nm.ext_put ι h.length w.heap.size c
  have hblkn : (ι.put h.length w.heap.size c).blk h.length = w.heap.size := by simp [Nm.put]
  have hcapn : (ι.put h.length w.heap.size c).cap h.length = c := by simp [Nm.put]
  have hfoot : (ι.put h.length w.heap.size c).foot h.length = (· = w.heap.size) := by simp [Nm.put]
  refine H.new b e rfl rfl rfl (by simp) (fun q hq => Below.heap_alloc _ _ _ (by omega)) (fun q hq => by rw [hfoot] at hq; exact Nat.le_of_eq (Eq.symm hq)) ?_ (SVal.sc_mono (by omega) _ hc)
  unfold Blk.Ok
  rw [ha]
  refine ⟨by rw [hfoot, hblkn], cs, ?_, ?_⟩
  · rw [hblkn]; simp only [World.alloc, Array.getElem?_push_size]
  · rw [hcapn]; exact hok.ext e hc

/-- What a block's cells hold. -/
theorem HR.cell (H : HR ρ G K w0 ι h w) {n i : Nat} {b : Blk} {v : SVal} (hb : h[n]? = some (some b)) (hv : b.cells.nth i = some v) :
    w.cell? ⟨ι.blk n, i, none⟩ = some (v.conc ρ ι) := by
  obtain ⟨_, _, ⟨cs, h2, h3⟩, _⟩ := H.real hb (H.real_of hb (ne_nil_of_nth hv))
  obtain ⟨rest, hr⟩ := h3.starts
  have h4 : cs[i]? = some (v.conc ρ ι) := by
    rw [← Array.getElem?_toList, hr, List.getElem?_append_left, SVal.concL_nth, hv]; · rfl
    have := SVal.concL_nth ρ ι b.cells i
    rw [hv] at this
    exact (List.getElem?_eq_some_iff.1 this).1
  simp [World.cell?, h2, h4]

theorem HR.frozen (H : HR ρ G K w0 ι h w) {n : Nat} {b : Blk} (hb : h[n]? = some (some b)) (ha : b.abs = none) (i : Nat) (s : Option Nat) : w.frozen? ⟨ι.blk n, i, s⟩ = false := by
  obtain ⟨_, _, ⟨cs, h2, _⟩, _⟩ := H.real hb ha
  simp only [World.frozen?, h2]
  simp

/-- A block's cells are others. -/
theorem HR.change (H : HR ρ G K w0 ι h w) {n : Nat} {b b' : Blk} (hb : h[n]? = some (some b)) (ha : b.abs = none) (ha' : b'.abs = none) {w' : World} (hos : w'.os = w.os) (htape : w'.tape = w.tape) (hout : w'.output = w.output) (hsz : w'.heap.size = w.heap.size)
    (hst : ∀ q, q ≠ ι.blk n → w'.heap[q]? = w.heap[q]?) (hok : ∃ cs : Array Value, w'.heap[ι.blk n]? = some (.cells cs b'.elem (0, 0)) ∧ b'.Fits ρ ι (ι.cap n) cs) (hs : b'.cells.sc h.length = true) :
    HR ρ G K w0 ι (h.set n (some b')) w' := by
  have hn : n < h.length := (List.getElem?_eq_some_iff.1 hb).1
  obtain ⟨hnK, hft, _, _⟩ := H.real hb ha
  have key : ∀ (m : Nat) (c : Blk), (h.set n (some b'))[m]? = some (some c) → (m ≠ n ∧ h[m]? = some (some c)) ∨ (m = n ∧ c = b') := by
    intro m c hc
    by_cases hm : m = n
    · subst hm; rw [List.getElem?_set_self hn] at hc; simp at hc; exact .inr ⟨rfl, hc.symm⟩
    · rw [List.getElem?_set_ne (Ne.symm hm)] at hc; exact .inl ⟨hm, hc⟩
  have at_ : ∀ (m : Nat) (c : Blk), (h.set n (some b'))[m]? = some (some c) → ∃ d : Blk, h[m]? = some (some d) := by
    intro m c hc
    rcases key m c hc with ⟨_, h1⟩ | ⟨rfl, _⟩
    · exact ⟨c, h1⟩
    · exact ⟨b, hb⟩
  refine ⟨hos.trans H.os, htape.trans H.tape, hout.trans H.output, by rw [hsz]; exact H.size, ?_, H.old, H.base, ?_, ?_, H.globs⟩
  · intro k hk
    rw [hst k (by intro e; subst e; exact hnK hk)]
    exact H.kept k hk
  · intro m c hc
    rcases key m c hc with ⟨hm, hc'⟩ | ⟨rfl, rfl⟩
    · obtain ⟨k1, k2, k4⟩ := H.blocks m c hc'
      refine ⟨k1, k2.still (fun q hq => hst q ?_) (fun q hq => hst q (by intro e; subst e; exact hnK hq)) H.base, by simpa using k4⟩
      intro e
      exact hm (H.inj m n c b hc' hb q hq (by rw [hft]; exact e))
    · refine ⟨fun q hq hK => (H.blocks m b hb).1 q hq hK, ?_, by simpa using hs⟩
      unfold Blk.Ok
      rw [ha']
      exact ⟨hft, hok⟩
  · intro m1 m2 c1 c2 hc1 hc2 q hq hq'
    obtain ⟨d1, e1⟩ := at_ m1 c1 hc1
    obtain ⟨d2, e2⟩ := at_ m2 c2 hc2
    exact H.inj m1 m2 d1 d2 e1 e2 q hq hq'

/-- A cell of a block is written. -/
theorem HR.store (H : HR ρ G K w0 ι h w) {n i : Nat} {b : Blk} {u v : SVal} (hb : h[n]? = some (some b)) (hu : b.cells.nth i = some u) (hv : v.sc h.length = true) :
    HR ρ G K w0 ι (h.set n (some { b with cells := b.cells.setAt i v })) (w.setCell ⟨ι.blk n, i, none⟩ (v.conc ρ ι)) := by
  have ha := H.real_of hb (ne_nil_of_nth hu)
  obtain ⟨_, _, ⟨cs, k2, k3⟩, k4⟩ := H.real hb ha
  have hi : i < b.cells.len := by
    have := SVal.concL_nth ρ ι b.cells i
    rw [hu] at this
    have := (List.getElem?_eq_some_iff.1 this).1
    rwa [SVal.concL_length] at this
  refine H.change hb ha (b' := { b with cells := b.cells.setAt i v }) ha rfl rfl rfl (by simp) (fun q hq => Below.heap_setCell _ _ _ _ (fun e => hq e)) ⟨cs.setIfInBounds i (v.conc ρ ι), ?_, ?_⟩ (SVal.sc_setAt _ i v k4 hv)
  · simp only [World.setCell, Array.getElem?_modify, if_true, k2]; simp
  · unfold Blk.Fits at *
    simp only at k3 ⊢
    cases hs : b.spare with
    | none =>
      rw [hs] at k3
      simp only at k3 ⊢
      rw [SVal.concL_setAt, ← k3]
      simp
    | some z =>
      rw [hs] at k3
      simp only at k3 ⊢
      obtain ⟨⟨rest, hr⟩, hz⟩ := k3
      refine ⟨⟨rest, ?_⟩, by simpa using hz⟩
      rw [SVal.concL_setAt, Array.toList_setIfInBounds, hr, List.set_append_left _ _ (by rw [SVal.concL_length]; exact hi)]

/-- All but what is named in a part of the heap is kept: a part of the heap, from this world on. -/
def keepAll (w : World) (ι : Nm) (h : Heap) (k : Nat) : Prop := k < w.heap.size ∧ ∀ n b, h[n]? = some (some b) → ¬ ι.foot n k

theorem HR.keeps (H : HR ρ G K w0 ι h w) (hl : ∀ (n : Nat) (b : Blk), h'[n]? = some (some b) → h[n]? = some (some b)) {q : Nat} (hq : K q) : keepAll w ι h' q :=
  ⟨by have := H.old q hq; have := H.size; omega, fun n b hb hf => (H.blocks n b (hl n b hb)).1 q hf hq⟩

theorem HR.part (H : HR ρ G K w0 ι h w) (hl : ∀ (n : Nat) (b : Blk), h'[n]? = some (some b) → h[n]? = some (some b) ∧ b.cells.sc h'.length = true) :
    HR ρ G (keepAll w ι h') w ι h' w := by
  refine ⟨rfl, rfl, rfl, Nat.le_refl _, fun _ _ => rfl, fun k hk => hk.1, fun q hq => H.keeps (fun n b hb => (hl n b hb).1) (H.base q hq), ?_, ?_, ?_⟩
  · intro n b hb
    obtain ⟨_, k2, _⟩ := H.blocks n b (hl n b hb).1
    exact ⟨fun q hq hk => hk.2 n b hb hq, k2.still (fun _ _ => rfl) (fun _ _ => rfl) H.base, (hl n b hb).2⟩
  · exact fun n m b c hb hc he => H.inj n m b c (hl n b hb).1 (hl m c hc).1 he
  · intro g cs hg
    obtain ⟨h1, h2, arr, t, fz, h3, h4⟩ := H.globs g cs hg
    refine ⟨H.keeps (fun n b hb => (hl n b hb).1) h1, h2, arr, t, fz, by rw [H.kept g h1]; exact h3, h4⟩

end
end
end Go.Sx
