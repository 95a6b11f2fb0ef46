/- The symbolic executor. -/
import Derived.Test.YtnpfihlaocpcfaaGreatDoorSxVal
namespace Go.Sx
noncomputable section

/-! ### Trees of outcomes -/

inductive Tree (α : Type) where
  | leaf (a : α)
  | ite (c : Tm) (t e : Tree α)
  | assert (c : Tm) (t : Tree α)
  | fail (why : String)
  deriving Inhabited

def Tree.get {α : Type} (ρ : Env) : Tree α → Option α
  | .leaf a => some a
  | .ite c t e => match (c.den ρ).asBool with | true => t.get ρ | false => e.get ρ
  | .assert c t => match (c.den ρ).asBool with | true => t.get ρ | false => none
  | .fail _ => none

def Tree.bind {α β : Type} : Tree α → (α → Tree β) → Tree β
  | .leaf a, k => k a
  | .ite c t e, k => .ite c (t.bind k) (e.bind k)
  | .assert c t, k => .assert c (t.bind k)
  | .fail w, _ => .fail w

theorem Tree.get_bind {α β : Type} (ρ : Env) (t : Tree α) (k : α → Tree β) : (t.bind k).get ρ = (t.get ρ).bind fun a => (k a).get ρ := by
  induction t with
  | leaf a => rfl
  | ite c t e iht ihe => simp only [Tree.bind, Tree.get]; split <;> assumption
  | assert c t ih => simp only [Tree.bind, Tree.get]; split <;> simp [ih]
  | fail w => rfl

/-- What must be so. -/
def Tree.must {α : Type} : List Tm → Tree α → Tree α
  | [], t => t
  | c :: cs, t => match c with
    | .bit true => Tree.must cs t
    | _ => .assert c (Tree.must cs t)

theorem Tree.get_must {α : Type} (ρ : Env) (cs : List Tm) (t : Tree α) (a : α) (h : (Tree.must cs t).get ρ = some a) :
    t.get ρ = some a ∧ ∀ c ∈ cs, (c.den ρ).asBool = true := by
  induction cs with
  | nil => exact ⟨h, by simp⟩
  | cons c cs ih =>
    unfold Tree.must at h
    split at h
    · obtain ⟨h1, h2⟩ := ih h
      exact ⟨h1, by intro d hd; rcases List.mem_cons.1 hd with rfl | hd; · rfl
                    · exact h2 d hd⟩
    · simp only [Tree.get] at h
      split at h
      · rename_i hc
        obtain ⟨h1, h2⟩ := ih h
        exact ⟨h1, by intro d hd; rcases List.mem_cons.1 hd with rfl | hd; · exact hc
                      · exact h2 d hd⟩
      · cases h

def Tree.ofOption {α : Type} (why : String) : Option α → Tree α
  | some a => .leaf a
  | none => .fail why

/-! ### States -/

abbrev Slots := List (Nat × Option SVal)

def Slots.getC : Slots → Nat → Option SVal
  | [], _ => none
  | (j, v) :: r, i => match Nat.beq i j with | true => v | false => Slots.getC r i
/-- By the recursor itself, for the kernel's sake. -/
noncomputable def Slots.get (s : Slots) (i : Nat) : Option SVal :=
  List.rec (motive := fun _ => Option SVal) none (fun p _ g => Bool.rec (motive := fun _ => Option SVal) g p.2 (Nat.beq i p.1)) s
theorem Slots.get_nil (i : Nat) : Slots.get [] i = none := rfl
theorem Slots.get_c (j : Nat) (v : Option SVal) (r : Slots) (i : Nat) : Slots.get ((j, v) :: r) i = match Nat.beq i j with | true => v | false => Slots.get r i := by
  show Bool.rec (motive := fun _ => Option SVal) (Slots.get r i) v (Nat.beq i j) = _
  cases Nat.beq i j <;> rfl
theorem Slots.get_eqC : @Slots.get = @Slots.getC := by
  funext s i
  induction s with
  | nil => rfl
  | cons p r ih =>
    obtain ⟨j, v⟩ := p
    rw [Slots.get_c, Slots.getC, ih]

structure St where
  n : Nat
  slots : Slots
  heap : Heap
  pc : Tm
  /-- the functions whose calls are put off, the last one first -/
  dfs : List FuncId := []
  deriving Inhabited

def St.get (σ : St) (i : Nat) : Option SVal := σ.slots.get i

/-- The bound is looked at once, where the state is built (the kernel would else walk all earlier states for it). -/
def St.put (σ : St) (d : Option Nat) (v : SVal) : St :=
  match d with
  | some d =>
    match σ with
    | ⟨0, s, h, p, q⟩ => ⟨0, (d, none) :: s, h, p, q⟩
    | ⟨n + 1, s, h, p, q⟩ => ⟨n + 1, (d, match Nat.blt d (n + 1) with | true => some v | false => none) :: s, h, p, q⟩
  | none => σ

theorem St.put_eq (σ : St) (d : Option Nat) (v : SVal) : σ.put d v =
    match d with
    | some d => { σ with slots := (d, match Nat.blt d σ.n with | true => some v | false => none) :: σ.slots }
    | none => σ := by
  cases d with
  | none => rfl
  | some d =>
    obtain ⟨n, s, h, p, q⟩ := σ
    cases n <;> rfl

def decide0 (pc t : Tm) : Option Bool :=
  match t with
  | .bit b => some b
  | _ => match saysIt t true pc with
    | true => some true
    | false => match saysIt t false pc with
      | true => some false
      | false => none

theorem decide0_den {ρ : Env} {pc t : Tm} {b : Bool} (hp : (pc.den ρ).asBool = true) (h : decide0 pc t = some b) : (t.den ρ).asBool = b := by
  unfold decide0 at h
  split at h
  · simp at h; subst h; rfl
  · split at h
    · rename_i hs; simp at h; subst h; exact saysIt_den ρ t true pc hs hp
    · split at h
      · rename_i hs; simp at h; subst h; exact saysIt_den ρ t false pc hs hp
      · cases h

/-- What is known of a truth: by its form, too. -/
def decideT (pc : Tm) : Tm → Option Bool
  | .op2 .band a b => match decide0 pc (.op2 .band a b) with
    | some r => some r
    | none => match decideT pc a with
      | some false => some false
      | some true => decideT pc b
      | none => match decideT pc b with
        | some false => some false
        | _ => none
  | .op2 .bor a b => match decide0 pc (.op2 .bor a b) with
    | some r => some r
    | none => match decideT pc a with
      | some true => some true
      | some false => decideT pc b
      | none => match decideT pc b with
        | some true => some true
        | _ => none
  | .op1 .not a => match decide0 pc (.op1 .not a) with
    | some r => some r
    | none => (decideT pc a).map fun r => !r
  | t => decide0 pc t

theorem decideT_den {ρ : Env} {pc t : Tm} {b : Bool} (hp : (pc.den ρ).asBool = true) (h : decideT pc t = some b) : (t.den ρ).asBool = b := by
  induction t generalizing b with
  | op2 o x y ihx ihy =>
    cases o with
    | band =>
      simp only [decideT] at h
      split at h
      · rename_i r hr; simp at h; subst h; exact decide0_den hp hr
      · simp only [Tm.den, Op2.ev, Sc.asBool_bool]
        split at h
        · rename_i hx; simp at h; subst h; rw [ihx hx]; rfl
        · rename_i hx; rw [ihx hx, ihy h]; rfl
        · split at h
          · rename_i hy; simp at h; subst h; rw [ihy hy, Bool.and_false]
          · cases h
    | bor =>
      simp only [decideT] at h
      split at h
      · rename_i r hr; simp at h; subst h; exact decide0_den hp hr
      · simp only [Tm.den, Op2.ev, Sc.asBool_bool]
        split at h
        · rename_i hx; simp at h; subst h; rw [ihx hx]; rfl
        · rename_i hx; rw [ihx hx, ihy h]; rfl
        · split at h
          · rename_i hy; simp at h; subst h; rw [ihy hy, Bool.or_true]
          · cases h
    | _ => exact decide0_den hp h
  | op1 o x ihx =>
    cases o with
    | not =>
      simp only [decideT] at h
      split at h
      · rename_i r hr; simp at h; subst h; exact decide0_den hp hr
      · simp only [Option.map_eq_some_iff] at h
        obtain ⟨r, hr, rfl⟩ := h
        simp only [Tm.den, Op1.ev, Sc.asBool_bool]
        rw [ihx hr]
    | _ => exact decide0_den hp h
  | _ => exact decide0_den hp h

/-- What must be so, but for what is known. -/
def Tree.mustP {α : Type} (pc : Tm) (cs : List Tm) (t : Tree α) : Tree α :=
  Tree.must (cs.filter fun c => match decideT pc c with | some true => false | _ => true) t

theorem Tree.get_mustP {α : Type} {ρ : Env} {pc : Tm} (hp : (pc.den ρ).asBool = true) (cs : List Tm) (t : Tree α) (a : α) (h : (Tree.mustP pc cs t).get ρ = some a) :
    t.get ρ = some a ∧ ∀ c ∈ cs, (c.den ρ).asBool = true := by
  obtain ⟨h1, h2⟩ := Tree.get_must ρ _ _ _ h
  refine ⟨h1, fun c hc => ?_⟩
  by_cases hk : decideT pc c = some true
  · exact decideT_den hp hk
  · refine h2 c (List.mem_filter.2 ⟨hc, ?_⟩)
    split
    · rename_i e; exact (hk e).elim
    · rfl

/-! ### Values of the program's text -/

def ofCell : Value → Option SVal
  | .bool b => some (.bool (.bit b))
  | .int k n => some (.int k (.num n))
  | .string s => some (.str (.text s.data.toList))
  | .pointer none => some .nilptr
  | .slice none 0 0 => some .nilslice
  | .nilFunc => some .nilfunc
  | .nilIface => some .nilIface
  | .map none => some .nilmap
  | _ => none

def ofCells : List Value → Option SVal
  | [] => some .nil
  | v :: r => match ofCell v, ofCells r with
    | some a, some l => some (.cons a l)
    | _, _ => none

def ofValue : Value → Option SVal
  | .agg cs => (ofCells cs.toList).map .agg
  | .tuple cs => (ofCells cs.toList).map .tup
  | v => ofCell v

def undefS : SVal := .tup .nil

def evO (slots : Slots) : Operand → Option SVal
  | .tmp t => slots.get t
  | .const v => ofValue v
  | .global g => some (.gptr g 0)
  | .func f => some (.func (.func f) .nil .nil)

/-! ### Choices between values -/

def mergeV (c : Tm) : SVal → SVal → Option SVal
  | .int k a, .int k' b => if k = k' then some (.int k (mkIte c a b)) else none
  | .bool a, .bool b => some (.bool (mkIteB c a b))
  | .str a, .str b => some (.str (mkIte c a b))
  | .agg a, .agg b => (mergeV c a b).map .agg
  | .tup a, .tup b => (mergeV c a b).map .tup
  | .cons a r, .cons b s => match mergeV c a b, mergeV c r s with
    | some x, some y => some (.cons x y)
    | _, _ => none
  | v, v' => if v = v' then some v else none

/-- The one of some values whose place a number tells. -/
def selectV (i : Tm) : Nat → List SVal → Option SVal
  | _, [] => none
  | _, [v] => some v
  | j, v :: r => match selectV i (j + 1) r with
    | some u => mergeV (mk2 .eq i (.num j)) v u
    | none => none

/-- Values that can be made one by a choice. -/
def SVal.alike : SVal → SVal → Bool
  | .int k _, .int k' _ => decide (k = k')
  | .bool _, .bool _ => true
  | .str _, .str _ => true
  | _, _ => false

def likeLen : List SVal → Nat
  | [] => 0
  | v :: r => (r.takeWhile v.alike).length + 1

/-- All of some values, or those at the head that can be made one. -/
def headOf (i : Tm) (l : List SVal) : List SVal :=
  match selectV i 0 l with
  | some _ => l
  | none => l.take (likeLen l)

theorem headOf_get {i : Tm} {l : List SVal} {j : Nat} {u : SVal} (h : (headOf i l)[j]? = some u) : l[j]? = some u := by
  unfold headOf at h
  split at h
  · exact h
  · rw [List.getElem?_take] at h
    split at h
    · exact h
    · cases h

theorem headOf_mem {i : Tm} {l : List SVal} {u : SVal} (h : u ∈ headOf i l) : u ∈ l := by
  obtain ⟨j, hj, rfl⟩ := List.getElem_of_mem h
  exact List.mem_of_getElem? (headOf_get (List.getElem?_eq_getElem hj))

/-! ### Types -/

def isAggT (P : Program) (t : TypeId) : Option Bool :=
  match P.underlying t with
  | some (.struct _) => some true
  | some (.array _ _) => some true
  | some _ => some false
  | none => none

def sizeT (P : Program) (t : TypeId) : Option Nat := (P.info? t).map (·.size)

def SVal.one : SVal → Bool
  | .agg _ | .tup _ | .nil | .cons _ _ | .val _ => false
  | _ => true
def SVal.allOne : SVal → Bool
  | .cons a r => a.one && r.allOne
  | _ => true

/-- A value's cells. -/
def SVal.cellsOf : SVal → SVal
  | .agg l => l
  | v => .cons v .nil

/-- A value whose form is known. -/
def SVal.plain : SVal → Bool
  | .val _ => false
  | _ => true

def partT (P : Program) (t : TypeId) (cs : SVal) (off : Nat) : Option SVal :=
  match isAggT P t with
  | some true => match sizeT P t with
    | some z => some (.agg ((cs.dropN off).takeN z))
    | none => none
  | some false => cs.nth off
  | none => none

def lit? : Tm → Option Int
  | .num n => some n
  | _ => none

/-- The parts of cells, each of so many, that begin at some place: at most so many of them. -/
def chunks (P : Program) (t : TypeId) (cs : SVal) (off z : Nat) : Nat → Option (List SVal)
  | 0 => some []
  | n + 1 => match partT P t cs off, chunks P t cs (off + z) z n with
    | some v, some l => some (v :: l)
    | _, _ => none

/-! ### Comparing -/

structure Cx where
  P : Program
  /-- struct types that may be compared -/
  okT : List TypeId
  globs : Globs
  /-- ways are not made one where a number would become a choice -/
  sharp : Bool := false
  /-- operations are made others by their operands' form -/
  fold : Bool := false
  /-- functions that do nothing where they are called behind a quiet return -/
  quiet : List FuncId := []
  /-- functions without a body that give a byte's place in a text -/
  idx : List FuncId := []
  /-- functions without a body that give their argument back -/
  same : List FuncId := []

def eqFieldsT (P : Program) (rec : TypeId → SVal → SVal → Option Tm) (xs ys : SVal) : List Field → Option Tm
  | [] => some (.bit true)
  | f :: fs =>
    match decide (f.name = "_") with
    | true => eqFieldsT P rec xs ys fs
    | false =>
      match partT P f.type xs f.offset, partT P f.type ys f.offset with
      | some a, some b => match rec f.type a b, eqFieldsT P rec xs ys fs with
        | some c, some d => some (mkAnd c d)
        | _, _ => none
      | _, _ => none

def eqItemsT (P : Program) (rec : TypeId → SVal → SVal → Option Tm) (e : TypeId) (z : Nat) (xs ys : SVal) : List Nat → Option Tm
  | [] => some (.bit true)
  | i :: is => match partT P e xs (i * z), partT P e ys (i * z) with
    | some a, some b => match rec e a b, eqItemsT P rec e z xs ys is with
      | some c, some d => some (mkAnd c d)
      | _, _ => none
    | _, _ => none

def eqT (cx : Cx) : Nat → TypeId → SVal → SVal → Option Tm
  | 0, _, _, _ => none
  | d + 1, t, x, y =>
    match cx.P.underlying t, x, y with
    | some .bool, .bool a, .bool b => some (mk2 .beq a b)
    | some (.int _), .int k a, .int k' b => if k = k' then some (mk2 .eq a b) else none
    | some .string, .str a, .str b => some (mk2 .seq a b)
    | some (.struct fs), .agg xs, .agg ys => if cx.okT.contains t then eqFieldsT cx.P (eqT cx d) xs ys fs.toList else none
    | some (.array n e), .agg xs, .agg ys => match cx.okT.contains t, sizeT cx.P e with
      | true, some z => eqItemsT cx.P (eqT cx d) e z xs ys (List.range n)
      | _, _ => none
    | some (.pointer _), .nilptr, .nilptr => some (.bit true)
    | some (.pointer _), .nilptr, .ptr _ _ => some (.bit false)
    | some (.pointer _), .ptr _ _, .nilptr => some (.bit false)
    | some (.pointer e), .ptr b o, .ptr b' o' => match cx.P.info? e, Nat.beq b b' && Nat.beq o o' with
      | some _, true => some (.bit true)
      | _, _ => none
    | some (.func _ _ _), .nilfunc, .nilfunc => some (.bit true)
    | some (.func _ _ _), .nilfunc, .func _ _ _ => some (.bit false)
    | some (.func _ _ _), .func _ _ _, .nilfunc => some (.bit false)
    | some (.slice _), .nilslice, .nilslice => some (.bit true)
    | some (.slice _), .nilslice, .slice _ _ _ _ => some (.bit false)
    | some (.slice _), .slice _ _ _ _, .nilslice => some (.bit false)
    | _, _, _ => none

def intOpT (op : BinOp) (k : IntKind) (a b : Tm) : Option (SVal × List Tm) :=
  match op with
  | .add => some (.int k (mk2 (.add k) a b), [])
  | .sub => some (.int k (mk2 (.sub k) a b), [])
  | .mul => some (.int k (mk2 (.mul k) a b), [])
  | .quo => some (.int k (mk2 (.quo k) a b), [mkNot (mk2 .eq b (.num 0))])
  | .rem => some (.int k (mk2 .rem a b), [mkNot (mk2 .eq b (.num 0))])
  | .and => some (.int k (mk2 (.and k) a b), [])
  | .or => some (.int k (mk2 (.or k) a b), [])
  | .xor => some (.int k (mk2 (.xor k) a b), [])
  | .andNot => some (.int k (mk2 (.andNot k) a b), [])
  | .eql => some (.bool (mk2 .eq a b), [])
  | .neq => some (.bool (mkNot (mk2 .eq a b)), [])
  | .lss => some (.bool (mk2 .lt a b), [])
  | .leq => some (.bool (mk2 .le a b), [])
  | .gtr => some (.bool (mk2 .lt b a), [])
  | .geq => some (.bool (mk2 .le b a), [])
  | _ => none

def strOpT (op : BinOp) (a b : Tm) : Option (SVal × List Tm) :=
  match op with
  | .add => some (.str (mk2 .cat a b), [mk2 .le (mk1 .slen (mk2 .cat a b)) (.num 9223372036854775807)])
  | .eql => some (.bool (mk2 .seq a b), [])
  | .neq => some (.bool (mkNot (mk2 .seq a b)), [])
  | .lss => some (.bool (mk2 .slt a b), [])
  | .geq => some (.bool (mkNot (mk2 .slt a b)), [])
  | .leq => some (.bool (mkOr (mk2 .slt a b) (mk2 .seq a b)), [])
  | .gtr => some (.bool (mkNot (mkOr (mk2 .slt a b) (mk2 .seq a b))), [])
  | _ => none

/-- A number's operation is another one. -/
def reV : SVal → SVal
  | .int k t => .int k (reT t)
  | v => v

def binT (cx : Cx) (op : BinOp) (t : TypeId) (x y : SVal) : Option (SVal × List Tm) :=
  match x, y with
  | .int k a, .int k' b =>
    match op with
    | .shl => some (.int k (mk2 (.shl k) a b), [mk2 .le (.num 0) b])
    | .shr => some (.int k (mk2 (.shr k) a b), [mk2 .le (.num 0) b])
    | op => if k = k' then (intOpT op k a b).map fun r => (match cx.fold with | true => reV r.1 | false => r.1, r.2) else none
  | .str a, .str b => strOpT op a b
  | x, y =>
    match op with
    | .eql => (eqT cx 20 t x y).map fun c => (.bool c, [])
    | .neq => (eqT cx 20 t x y).map fun c => (.bool (mkNot c), [])
    | _ => none

def unT (op : UnOp) (x : SVal) : Option SVal :=
  match op, x with
  | .neg, .int k a => some (.int k (mk2 (.sub k) (.num 0) a))
  | .xor, .int k a => some (.int k (mk1 (.compl k) a))
  | .not, .bool a => some (.bool (mkNot a))
  | _, _ => none

def convT (P : Program) (src dst : TypeId) (x : SVal) : Option SVal :=
  match P.underlying src, P.underlying dst, x with
  | some _, some (.int k), .int _ a => some (.int k (mk1 (.conv k) a))
  | some _, some .string, .str a => some (.str a)
  | _, _, _ => none

/-! ### Building -/

def setCells : SVal → Nat → SVal → Option SVal
  | cs, i, .cons v r => match cs.nth i with
    | some _ => setCells (cs.setAt i v) (i + 1) r
    | none => none
  | cs, _, _ => some cs

def fillT (place : Nat → Option (Nat × Nat)) (cells : SVal) : List (Nat × SVal) → Option SVal
  | [] => some cells
  | (i, v) :: rest =>
    match place i with
    | none => none
    | some (off, size) =>
      match Nat.beq v.cellsOf.len size && Nat.ble (off + size) cells.len && v.plain with
      | false => none
      | true => match setCells cells off v.cellsOf with
        | some cells' => fillT place cells' rest
        | none => none

def evParts (slots : Slots) : List (Nat × Operand) → Option (List (Nat × SVal))
  | [] => some []
  | (i, x) :: r => match evO slots x, evParts slots r with
    | some v, some l => some ((i, v) :: l)
    | _, _ => none

def zeroT (P : Program) (t : TypeId) : Option SVal :=
  match P.info? t with
  | some i => match i.zero with
    | some z => ofValue z
    | none => none
  | none => none

def placeS (P : Program) (fs : Array Field) (i : Nat) : Option (Nat × Nat) :=
  match fs[i]? with
  | some f => (sizeT P f.type).map fun s => (f.offset, s)
  | none => none

def buildT (P : Program) (t : TypeId) (parts : List (Nat × SVal)) : Option SVal :=
  match zeroT P t with
  | none => none
  | some z =>
    match P.underlying t with
    | some (.struct fs) => match fs.toList.all fun f => (sizeT P f.type).isSome with
      | false => none
      | true => (fillT (placeS P fs) z.cellsOf parts).map .agg
    | some (.array _ e) => match sizeT P e with
      | some s => (fillT (fun i => some (i * s, s)) z.cellsOf parts).map .agg
      | none => none
    | _ => none

def repeatS (z : SVal) : Nat → SVal
  | 0 => .nil
  | n + 1 => z.app (repeatS z n)

/-! ### Operations that leave the heap alone -/

/-- A cell of an element of a row, out of its datum. -/
def ckT (d i : Tm) (j : Nat) : CK → SVal
  | .int k => .int k (mk1 (.conv k) (mk1 (.nth j) (mk2 .lget d i)))
  | .bool => .bool (mk1 (.nth j) (mk2 .lget d i))
  | .str => .str (mk1 (.nth j) (mk2 .lget d i))

def cksT (d i : Tm) : Nat → List CK → SVal
  | _, [] => .nil
  | j, c :: r => .cons (ckT d i j c) (cksT d i (j + 1) r)

/-- A load out of a row's element. -/
def loadA (P : Program) (h : Heap) (t : TypeId) (n off : Nat) (i : Tm) (z : Nat) : Option (SVal × List Tm) :=
  match h[n]? with
  | some (some b) => match b.abs with
    | some (_, k, d) => match Nat.beq (rowK k).length z && Nat.blt 0 z with
      | true => match isAggT P t, sizeT P t with
        | some true, some m => match Nat.ble (off + m) z with
          | true => some (.agg (((cksT d i 0 (rowK k)).dropN off).takeN m), [mk2 .le (.num 0) i, mk2 .lt i (mk1 .llen d)])
          | false => none
        | some false, _ => ((cksT d i 0 (rowK k)).nth off).map fun v => (v, [mk2 .le (.num 0) i, mk2 .lt i (mk1 .llen d)])
        | _, _ => none
      | false => none
    | none => none
  | _ => none

def loadT (cx : Cx) (h : Heap) (t : TypeId) (a : SVal) : Option (SVal × List Tm) :=
  match a with
  | .ptrA n off i z => loadA cx.P h t n off i z
  | .ptr b off => match h[b]? with
    | some (some blk) => match isAggT cx.P t, sizeT cx.P t with
      | some true, some z => match Nat.ble (off + z) blk.cells.len with
        | true => some (.agg ((blk.cells.dropN off).takeN z), [])
        | false => none
      | some false, _ => (blk.cells.nth off).map fun v => (v, [])
      | _, _ => none
    | _ => none
  | .gptr g off => match cx.globs.lookup g with
    | some cells => match isAggT cx.P t, sizeT cx.P t with
      | some true, some z => match Nat.ble (off + z) cells.len with
        | true => some (.agg ((cells.dropN off).takeN z), [])
        | false => none
      | some false, _ => (cells.nth off).map fun v => (v, [])
      | _, _ => none
    | none => none
  | .ptrI b off i z => match h[b]? with
    | some (some blk) =>
      let m := (blk.cells.len - off + z - 1) / z
      match isAggT cx.P t, Nat.blt 0 z with
      | some false, true => match chunks cx.P t blk.cells off z m with
        | some l => (selectV i 0 (headOf i l)).map fun v => (v, [mk2 .le (.num 0) i, mk2 .lt i (.num (headOf i l).length)])
        | none => none
      | _, _ => none
    | _ => none
  | _ => none

def fieldAddrT (P : Program) (s : TypeId) (x : SVal) (f : Nat) : Option SVal :=
  match P.underlying s with
  | some (.struct fs) => match fs[f]? with
    | some fd => match sizeT P fd.type with
      | some (_ + 1) => match x with
        | .ptr b off => some (.ptr b (off + fd.offset))
        | .gptr g off => some (.gptr g (off + fd.offset))
        | .ptrI b off i z => some (.ptrI b (off + fd.offset) i z)
        | .ptrA b off i z => some (.ptrA b (off + fd.offset) i z)
        | _ => none
      | _ => none
    | none => none
  | _ => none

def fieldT (P : Program) (s : TypeId) (x : SVal) (f : Nat) : Option SVal :=
  match P.underlying s with
  | some (.struct fs) => match fs[f]? with
    | some fd => match x with
      | .agg cs => partT P fd.type cs fd.offset
      | _ => none
    | none => none
  | _ => none

/-- The number of a literal that is at least 0 and below a number. -/
def below? (n : Int) (m : Nat) : Option Nat :=
  match n with
  | .ofNat k => match Nat.blt k m with | true => some k | false => none
  | .negSucc _ => none

def indexAddrT (P : Program) (t : TypeId) (x i : SVal) : Option (SVal × List Tm) :=
  match i with
  | .int _ ti =>
    match P.underlying t, x with
    | some (.array n e), .ptr b off => match sizeT P e with
      | some z => match lit? ti with
        | some k => (below? k n).map fun k => (.ptr b (off + k * z), [])
        | none => some (.ptrI b off ti z, [mk2 .le (.num 0) ti, mk2 .lt ti (.num n)])
      | none => none
    | some (.array n e), .gptr g off => match sizeT P e, lit? ti with
      | some z, some k => (below? k n).map fun k => (.gptr g (off + k * z), [])
      | _, _ => none
    | some (.slice e), .slice b off n _ => match sizeT P e with
      | some z => match lit? ti with
        | some k => (below? k n).map fun k => (.ptr b (off + k * z), [])
        | none => some (.ptrI b off ti z, [mk2 .le (.num 0) ti, mk2 .lt ti (.num n)])
      | none => none
    | _, _ => none
  | _ => none

/-- The address of a row's element. -/
def idxA (P : Program) (h : Heap) (t : TypeId) (n : Nat) (i : SVal) : Option (SVal × List Tm) :=
  match i, P.underlying t, h[n]? with
  | .int _ ti, some (.slice e), some (some b) => match b.abs, sizeT P e with
    | some (_, k, d), some z => match Nat.beq (rowK k).length z && Nat.blt 0 z with
      | true => some (.ptrA n 0 ti z, [mk2 .le (.num 0) ti, mk2 .lt ti (mk1 .llen d)])
      | false => none
    | _, _ => none
  | _, _, _ => none

def indexT (P : Program) (t : TypeId) (x i : SVal) : Option (SVal × List Tm) :=
  match i with
  | .int _ ti =>
    match P.underlying t, x with
    | some (.array n e), .agg cs => match sizeT P e with
      | some z => match lit? ti with
        | some k => match below? k n with
          | some k => (partT P e cs (k * z)).map fun v => (v, [])
          | none => none
        | none => match chunks P e cs 0 z n with
          | some l => (selectV ti 0 l).map fun v => (v, [mk2 .le (.num 0) ti, mk2 .lt ti (.num n)])
          | none => none
      | none => none
    | some .string, .str s => some (.int .u8 (mk2 .sidx s ti), [mk2 .le (.num 0) ti, mk2 .lt ti (mk1 .slen s)])
    | _, _ => none
  | _ => none

def lenT (P : Program) (t : TypeId) (x : SVal) : Option SVal :=
  match P.underlying t, x with
  | some .string, .str s => some (.int .i64 (mk1 .slen s))
  | some (.array n _), _ => some (.int .i64 (.num n))
  | some (.slice _), .slice _ _ n _ => some (.int .i64 (.num n))
  | some (.slice _), .nilslice => some (.int .i64 (.num 0))
  | _, _ => none

/-- The length of a datum that is a slice. -/
def lenA (P : Program) (h : Heap) (t : TypeId) (n : Nat) : Option SVal :=
  match P.underlying t, h[n]? with
  | some (.slice _), some (some b) => match b.abs with
    | some (_, k, d) => match Nat.blt k 100 with
      | true => some (.int .i64 (mk1 .llen d))
      | false => match rowK k with
        | [] => none
        | _ :: _ => some (.int .i64 (mk1 .llen d))
    | none => none
  | _, _ => none

def evs (slots : Slots) : List Operand → Option (List SVal)
  | [] => some []
  | x :: r => match evO slots x, evs slots r with
    | some v, some l => some (v :: l)
    | _, _ => none

/-- A truth that is known. -/
def knowV (pc : Tm) : SVal → SVal
  | .bool t => match decideT pc t with
    | some b => .bool (.bit b)
    | none => .bool t
  | v => v

/-- A bound of a part of a text. -/
def boundE (slots : Slots) (d : Nat) : Option Operand → Option Nat
  | none => some d
  | some x => match evO slots x with
    | some (.int _ (.num n)) => match decide (0 ≤ n) with
      | true => some n.toNat
      | false => none
    | _ => none

/-- A text of bytes. -/
def chrsT : SVal → Option Tm
  | .nil => some (.text [])
  | .cons (.int .u8 t) r => match chrsT r with
    | some u => some (mk2 .cat (mk1 .chr t) u)
    | none => none
  | _ => none

def strOf (P : Program) (h : Heap) (s d : TypeId) (b off n : Nat) : Option SVal :=
  match P.underlying s, P.underlying d, h[b]? with
  | some (.slice e), some .string, some (some blk) => match P.underlying e, Nat.ble (off + n * 1) blk.cells.len with
    | some (.int .u8), true => match chrsT ((blk.cells.dropN off).takeN (n * 1)) with
      | some t => some (.str t)
      | none => none
    | _, _ => none
  | _, _, _ => none

/-- An operation that leaves the heap as it is: its value, and what must be so. -/
def pureOp (cx : Cx) (slots : Slots) (h : Heap) (pc : Tm) (o : Oper) : Option (SVal × List Tm) :=
  match o.op with
  | .move x => (evO slots x).map fun v => (v, [])
  | .assign x => (evO slots x).map fun v => (v, [])
  | .pick c a b => match evO slots c with
    | some (.bool t) => match decideT pc t with
      | some true => (evO slots a).map fun v => (v, [])
      | some false => (evO slots b).map fun v => (v, [])
      | none => match evO slots a, evO slots b with
        | some u, some v => (mergeV t u v).map fun v => (v, [])
        | _, _ => none
    | _ => none
  | .build t parts => match evParts slots parts.toList with
    | some ps => (buildT cx.P t ps).map fun v => (v, [])
    | none => none
  | .load t a => match evO slots a with
    | some p => loadT cx h t p
    | none => none
  | .nilCheck x => match evO slots x with
    | some (.ptr b off) => some (.ptr b off, [])
    | some (.gptr g off) => some (.gptr g off, [])
    | some (.func (.func f) a b) => some (.func (.func f) a b, [])
    | _ => none
  | .binOp op t x y _ => match evO slots x, evO slots y with
    | some u, some v => (binT cx op t u v).map fun r => (match cx.fold with | true => knowV pc r.1 | false => r.1, r.2)
    | _, _ => none
  | .unOp op _ x => match evO slots x with
    | some u => (unT op u).map fun v => (v, [])
    | none => none
  | .convert s d x => match evO slots x with
    | some (.slice b off n c) => match strOf cx.P h s d b off n with
      | some v => some (v, [])
      | none => (convT cx.P s d (.slice b off n c)).map fun v => (v, [])
    | some u => (convT cx.P s d u).map fun v => (v, [])
    | none => none
  | .makeFunc fn first captured => match evs slots first.toList, evs slots captured.toList with
    | some a, some b => some (.func fn (.ofList a) (.ofList b), [])
    | _, _ => none
  | .fieldAddr s x f => match evO slots x with
    | some u => (fieldAddrT cx.P s u f).map fun v => (v, [])
    | none => none
  | .field s x f => match evO slots x with
    | some u => (fieldT cx.P s u f).map fun v => (v, [])
    | none => none
  | .indexAddr t x i => match evO slots x, evO slots i with
    | some (.abs n), some v => idxA cx.P h t n v
    | some u, some v => indexAddrT cx.P t u v
    | _, _ => none
  | .index t x i => match evO slots x, evO slots i with
    | some u, some v => indexT cx.P t u v
    | _, _ => none
  | .extract x i => match evO slots x with
    | some (.tup l) => (l.nth i).map fun v => (v, [])
    | _ => none
  | .slice t x lo hi none => match cx.P.underlying t, evO slots x with
    | some .string, some (.str (.text s)) => match boundE slots 0 lo, boundE slots s.length hi with
      | some l, some h => match Nat.ble l h && Nat.ble h s.length with
        | true => some (.str (.text ((s.drop l).take (h - l))), [])
        | false => none
      | _, _ => none
    | _, _ => none
  | .call c => match c.callee with
    | .builtin .len => match c.args.toList, c.argTypes.toList with
      | [x], [t] => match evO slots x with
        | some (.abs n) => (lenA cx.P h t n).map fun v => (v, [])
        | some u => (lenT cx.P t u).map fun v => (v, [])
        | none => none
      | _, _ => none
    | .builtin .min => match evs slots c.args.toList with
      | some [.int k a, .int _ b] => some (.int k (mkIte (mk2 .lt b a) b a), [])
      | _ => none
    | .builtin .max => match evs slots c.args.toList with
      | some [.int k a, .int _ b] => some (.int k (mkIte (mk2 .lt a b) b a), [])
      | _ => none
    | _ => none
  | _ => none

/-! ### Operations on the heap -/

def Blk.isReal (b : Blk) : Bool := match b.abs with | none => true | some _ => false

def bytesT (P : Program) (t : TypeId) : Option Nat := (P.info? t).map (·.bytes)

def sliceCells (h : Heap) (z : Nat) : SVal → Option SVal
  | .slice b off n _ => match h[b]? with
    | some (some blk) => match Nat.ble (off + n * z) blk.cells.len with
      | true => some ((blk.cells.dropN off).takeN (n * z))
      | false => none
    | _ => none
  | .nilslice => some .nil
  | _ => none

def SVal.sliceLen : SVal → Nat
  | .slice _ _ n _ => n
  | _ => 0

/-- append of some more: the value, the new heap. -/
def appendT (P : Program) (h : Heap) (t : TypeId) (s x : SVal) : Option (SVal × Heap) :=
  match P.underlying t with
  | some (.slice e) => match P.info? e with
    | some i => match i.zero with
      | some zv =>
        match sliceCells h i.size s, sliceCells h i.size x with
        | some old, some new =>
          match x with
          | .slice _ _ m _ =>
            match Nat.blt 0 m && Nat.ble (2 * (s.sliceLen + m) * i.bytes) 281474976710656 && Nat.ble (s.sliceLen + m) 4294967296 && Nat.beq zv.cells.size i.size && Nat.blt 0 i.size && new.allOne with
            | false => none
            | true =>
              let blk : Blk := { cells := old.app new, elem := e, spare := some i.size }
              match s with
              | .nilslice => some (.slice h.length 0 m (.of h.length), h ++ [some blk])
              | .slice _ _ n (.known c) => match Nat.blt c (n + m) with
                | true => some (.slice h.length 0 (n + m) (.of h.length), h ++ [some blk])
                | false => none
              | .slice b 0 n (.of b') => match Nat.beq b b', h[b]? with
                | true, some (some ob) => match ob.spare with
                  | some z' => match Nat.beq i.size z' && Nat.beq ob.cells.len (n * i.size) && Nat.beq ob.elem e && ob.isReal with
                    | true => some (.slice h.length 0 (n + m) (.of h.length), (h.set b none) ++ [some blk])
                    | false => none
                  | none => none
                | _, _ => none
              | _ => none
          | _ => none
        | _, _ => none
      | none => none
    | none => none
  | _ => none

def heapOp (cx : Cx) (slots : Slots) (h : Heap) (o : Oper) : Option (SVal × Heap) :=
  match o.op with
  | .alloc e => match zeroT cx.P e with
    | some z => some (.ptr h.length 0, h ++ [some { cells := z.cellsOf, elem := e, spare := none }])
    | none => none
  | .box e x => match evO slots x with
    | some v => match v.plain with
      | true => some (.ptr h.length 0, h ++ [some { cells := v.cellsOf, elem := e, spare := none }])
      | false => none
    | none => none
  | .buildSlice t n parts => match cx.P.underlying t, evParts slots parts.toList with
    | some (.slice e), some ps => match sizeT cx.P e, zeroT cx.P e with
      | some z, some v => match Nat.ble (n * z) 16777216 && Nat.beq v.cellsOf.len z && Nat.blt 0 z with
        | true => match fillT (fun i => some (i * z, z)) (repeatS v.cellsOf n) ps with
          | some cells => some (.slice h.length 0 n (.known n), h ++ [some { cells := cells, elem := e, spare := none }])
          | none => none
        | false => none
      | _, _ => none
    | _, _ => none
  | .store t a x => match evO slots a, evO slots x with
    | some (.ptr b off), some v => match h[b]?, sizeT cx.P t with
      | some (some blk), some z => match Nat.beq v.cellsOf.len z && v.cellsOf.allOne && v.plain && blk.isReal with
        | true => match setCells blk.cells off v.cellsOf with
          | some cells => some (undefS, h.set b (some { blk with cells := cells }))
          | none => none
        | false => none
      | _, _ => none
    | _, _ => none
  | .call c => match c.callee with
    | .builtin .append => match c.args.toList, c.argTypes.toList with
      | [s, x], [t, u] => match evO slots s, evO slots x, Nat.beq t u with
        | some sv, some xv, true => appendT cx.P h t sv xv
        | _, _, _ => none
      | _, _ => none
    | _ => none
  | _ => none

/-- A cell among some whose place a number tells is another. -/
def setI (ti : Tm) (v : SVal) (off z : Nat) : Nat → Nat → SVal → Option SVal
  | 0, _, cs => some cs
  | n + 1, j, cs => match cs.nth (off + j * z) with
    | some u => match mergeV (mk2 .eq ti (.num j)) v u with
      | some x => setI ti v off z n (j + 1) (cs.setAt (off + j * z) x)
      | none => none
    | none => none

/-- How many cells, each so far behind the other, are like a value. -/
def alikeN (v : SVal) (z : Nat) (cs : SVal) : Nat → Nat → Nat
  | 0, _ => 0
  | n + 1, off => match cs.nth off with
    | some u => match v.alike u with
      | true => alikeN v z cs n (off + z) + 1
      | false => 0
    | none => 0

/-- A store at a place that a number tells: what must be so. -/
def storeOp (cx : Cx) (slots : Slots) (h : Heap) (o : Oper) : Option (Heap × List Tm) :=
  match o.op with
  | .store t a x => match evO slots a, evO slots x with
    | some (.ptrI b off ti z), some v => match h[b]?, sizeT cx.P t with
      | some (some blk), some 1 => match Nat.blt 0 z && v.one && blk.isReal with
        | true => match setI ti v off z (alikeN v z blk.cells blk.cells.len off) 0 blk.cells with
          | some cells => some (h.set b (some { blk with cells := cells }), [mk2 .le (.num 0) ti, mk2 .lt ti (.num (alikeN v z blk.cells blk.cells.len off))])
          | none => none
        | false => none
      | _, _ => none
    | _, _ => none
  | _ => none


/-! ### More operations -/

/-- Part of a slice: its bounds are known. -/
def capSub : Cap → Nat → Cap
  | .known m, l => .known (m - l)
  | .of b, 0 => .of b
  | .of b, l => .sub b l
  | .sub b k, l => .sub b (k + l)

/-- Does a slice have room for so many? -/
def roomT (h : Heap) (z : Nat) (n : Nat) : Cap → Bool
  | .known m => Nat.ble n m
  | .of b' => match h[b']? with
    | some (some blk) => match blk.spare with
      | some z' => Nat.beq z z' && Nat.blt 0 z && Nat.ble (n * z) blk.cells.len && blk.isReal
      | none => false
    | _ => false
  | .sub b' k => match h[b']? with
    | some (some blk) => match blk.spare with
      | some z' => Nat.beq z z' && Nat.blt 0 z && Nat.ble ((k + n) * z) blk.cells.len && blk.isReal
      | none => false
    | _ => false

/-- A part of a slice or of an array; z: an element's cells; n: its length; its capacity. -/
def cutT (h : Heap) (slots : Slots) (z b off n : Nat) (c : Cap) (lo hi mx : Option Operand) : Option SVal :=
  match boundE slots 0 lo, boundE slots n hi with
  | some l, some u => match mx with
    | none => match Nat.ble l u && roomT h z u c && (Nat.beq l 0 || Nat.blt l u) with
      | true => some (.slice b (off + l * z) (u - l) (capSub c l))
      | false => none
    | some m => match boundE slots 0 (some m) with
      | some m => match Nat.ble l u && Nat.ble u m && roomT h z m c && (Nat.beq l 0 || Nat.blt l m) && hi.isSome with
        | true => some (.slice b (off + l * z) (u - l) (.known (m - l)))
        | false => none
      | none => none
  | _, _ => none

def sliceT (P : Program) (slots : Slots) (h : Heap) (t : TypeId) (x : SVal) (lo hi mx : Option Operand) : Option SVal :=
  match P.underlying t, x with
  | some (.slice e), .slice b off n c => match sizeT P e with
    | some z => cutT h slots z b off n c lo hi mx
    | none => none
  | some (.slice e), .nilslice => match sizeT P e, boundE slots 0 lo, boundE slots 0 hi, boundE slots 0 mx, mx.isNone || hi.isSome with
    | some _, some 0, some 0, some 0, true => some .nilslice
    | _, _, _, _, _ => none
  | some (.array n e), .ptr b off => match sizeT P e, mx with
    | some z, none => cutT h slots z b off n (.known n) lo hi none
    | _, _ => none
  | _, _ => none

def memNat (k : Nat) : List Nat → Bool
  | [] => false
  | a :: r => match Nat.beq k a with
    | true => true
    | false => memNat k r

/-- The place of a byte in a text; -1: none. -/
def idxF (k : Nat) : Nat → List UInt8 → Int
  | _, [] => -1
  | i, c :: r => match Nat.beq c.toNat k with
    | true => .ofNat i
    | false => idxF k (i + 1) r

def isConst : Operand → Bool
  | .const _ => true
  | _ => false

/-- A pointer into a block as an unsafe one, and back. -/
def unsafeT (P : Program) (h : Heap) (s d : TypeId) (b o : Nat) : Bool :=
  match h[b]? with
  | some (some blk) => match blk.abs, blk.spare with
    | none, none => match P.underlying s, P.underlying d with
      | some (.pointer t), some .unsafePointer => match P.info? t with
        | some j => !(Nat.beq j.size 0) && Nat.blt o blk.cells.len
        | none => false
      | some .unsafePointer, some (.pointer u) => match P.info? u with
        | some _ => liesAt P P.depth blk.elem (blk.cells.len / P.cellsOf blk.elem) o u 1
        | none => false
      | _, _ => false
    | _, _ => false
  | _ => false

/-- More operations that leave the heap as it is. -/
def pureOp2 (cx : Cx) (slots : Slots) (h : Heap) (o : Oper) : Option SVal :=
  match o.op with
  | .convert s d x => match cx.P.underlying s, cx.P.underlying d, evO slots x with
    | some _, some .string, some (.int _ (.num (.ofNat c))) => match Nat.blt c 128 with
      | true => some (.str (.text [UInt8.ofNat c]))
      | false => none
    | some _, some _, some (.ptr b o) => match unsafeT cx.P h s d b o with
      | true => some (.ptr b o)
      | false => none
    | _, _, _ => none
  | .binOp op t x y _ => match cx.P.underlying t, evO slots x, evO slots y with
    | some (.interface _), some .nilIface, some .nilIface => match isConst x || isConst y, op with
      | true, .eql => some (.bool (.bit true))
      | true, .neq => some (.bool (.bit false))
      | _, _ => none
    | some (.interface _), some .nilIface, some (.iface _ _) => match op with
      | .eql => some (.bool (.bit false))
      | .neq => some (.bool (.bit true))
      | _ => none
    | some (.interface _), some (.iface _ _), some .nilIface => match op with
      | .eql => some (.bool (.bit false))
      | .neq => some (.bool (.bit true))
      | _ => none
    | _, _, _ => none
  | .slice t x lo hi mx => match evO slots x with
    | some u => sliceT cx.P slots h t u lo hi mx
    | none => none
  | .makeInterface t x => match cx.P.underlying t, evO slots x with
    | some (.interface _), _ => none
    | some _, some v => some (.iface t v)
    | _, _ => none
  | .typeAssert x _ asserted ok => match cx.P.underlying asserted, evO slots x with
    | some (.interface _), _ => none
    | some _, some (.iface t v) => match decide (t = asserted), ok with
      | true, true => some (.tup (.cons v (.cons (.bool (.bit true)) .nil)))
      | true, false => some v
      | false, true => (zeroT cx.P asserted).map fun z => .tup (.cons z (.cons (.bool (.bit false)) .nil))
      | false, false => none
    | some _, some .nilIface => match ok with
      | true => (zeroT cx.P asserted).map fun z => .tup (.cons z (.cons (.bool (.bit false)) .nil))
      | false => none
    | _, _ => none
  | .call c => match c.callee with
    | .builtin .cap => match c.args.toList, c.argTypes.toList with
      | [x], [t] => match cx.P.underlying t, evO slots x with
        | some (.slice _), some (.slice _ _ _ (.known m)) => some (.int .i64 (.num (.ofNat m)))
        | some (.slice _), some .nilslice => some (.int .i64 (.num 0))
        | _, _ => none
      | _, _ => none
    | .builtin .len => match c.args.toList, c.argTypes.toList with
      | [x], [t] => match cx.P.underlying t, evO slots x with
        | some (.slice _), some (.abs n) => match h[n]? with
          | some (some blk) => match blk.abs with
            | some (true, k, _) => match Nat.beq k 2007 with
              | true => some (.int .i64 (.num 0))
              | false => none
            | _ => none
          | _ => none
        | _, _ => none
      | _, _ => none
    | .builtin .unsafeSliceData => match c.args.toList with
      | [x] => match evO slots x with
        | some (.slice b off _ (.known m)) => match Nat.blt 0 m with
          | true => some (.ptr b off)
          | false => none
        | some (.slice b off n (.of b')) => match Nat.blt 0 n && roomT h 1 n (.of b') with
          | true => some (.ptr b off)
          | false => none
        | some .nilslice => some .nilptr
        | _ => none
      | _ => none
    | .value f => match evO slots f, c.args.toList with
      | some (.func (.func g) .nil .nil), [x, y] => match memNat g cx.idx, evO slots x, evO slots y with
        | true, some (.str (.text s)), some (.int .u8 (.num (.ofNat k))) => match Nat.blt k 256 with
          | true => some (.int .i64 (.num (idxF k 0 s)))
          | false => none
        | _, _, _ => none
      | some (.func (.func g) .nil .nil), [x] => match memNat g cx.same with
        | true => evO slots x
        | false => none
      | _, _ => none
    | _ => none
  | _ => none

/-- Bytes of a text, as cells. -/
def bytesS : List UInt8 → SVal
  | [] => .nil
  | c :: r => .cons (.int .u8 (.num (.ofNat c.toNat))) (bytesS r)

/-- Cells that are bytes. -/
def litBytes : SVal → Option (List UInt8)
  | .nil => some []
  | .cons (.int .u8 (.num (.ofNat c))) r => match litBytes r, Nat.blt c 256 with
    | some l, true => some (UInt8.ofNat c :: l)
    | _, _ => none
  | _ => none

/-- One more behind a list. -/
def snocT : Tm → Tm → Tm
  | .cons a r, x => .cons a (snocT r x)
  | _, x => .cons x .nil

/-- What a map of texts to truths has at a text. -/
def lookF (s : List UInt8) : Tm → Option (Option Bool)
  | .nil => some none
  | .cons (.cons (.text a) (.cons (.bit b) .nil)) r => match decide (s = a) with
    | true => some (some b)
    | false => lookF s r
  | _ => none

/-- A field that is a number. -/
def intPart (P : Program) (l : SVal) (f : Field) : Bool :=
  match P.underlying f.type, partT P f.type l f.offset with
  | some (.int _), some _ => true
  | _, _ => false

/-- What append gets more: how many, and their cells. -/
def newsT (P : Program) (h : Heap) (z : Nat) (u : TypeId) : SVal → Option (Nat × SVal)
  | .str (.text l) => match P.underlying u, Nat.beq z 1 with
    | some .string, true => some (l.length, bytesS l)
    | _, _ => none
  | .nilslice => match P.underlying u with
    | some (.slice _) => some (0, .nil)
    | _ => none
  | .slice b off n c => match P.underlying u, sliceCells h z (.slice b off n c) with
    | some (.slice _), some l => some (n, l)
    | _, _ => none
  | .abs n => match P.underlying u, h[n]?, Nat.beq z 1 with
    | some (.slice _), some (some blk), true => match blk.abs with
      | some (true, k, .cons (.text l) .nil) => match Nat.beq k 2005 with
        | true => some (l.length, bytesS l)
        | false => none
      | _ => none
    | _, _, _ => none
  | _ => none

/-- append of cells that are known. -/
def appendX (h : Heap) (i : TypeInfo) (zv : Value) (e : TypeId) (s : SVal) (m : Nat) (new : SVal) : Option (SVal × Heap) :=
  match s with
  | .nilslice => match Nat.beq m 0 with
    | true => some (.nilslice, h)
    | false => match Nat.ble (2 * m * i.bytes) 281474976710656 && Nat.ble m 4294967296 && Nat.beq zv.cells.size i.size && Nat.blt 0 i.size && new.allOne with
      | true => some (.slice h.length 0 m (.of h.length), h ++ [some { cells := new, elem := e, spare := some i.size }])
      | false => none
  | .slice b off n (.known c) => match Nat.ble (n + m) c with
    | true => match Nat.beq m 0, h[b]? with
      | true, _ => some (.slice b off n (.known c), h)
      | false, some (some blk) => match blk.isReal && new.allOne && Nat.blt 0 i.size with
        | true => match setCells blk.cells (off + n * i.size) new with
          | some cells => some (.slice b off (n + m) (.known c), h.set b (some { blk with cells := cells }))
          | none => none
        | false => none
      | _, _ => none
    | false => none
  | .slice b 0 n (.of b') => match Nat.beq m 0 with
    | true => match roomT h i.size n (.of b') with
      | true => some (.slice b 0 n (.of b'), h)
      | false => none
    | false => match Nat.beq b b', h[b]? with
      | true, some (some ob) => match ob.spare with
        | some z' => match Nat.beq i.size z' && Nat.beq ob.cells.len (n * i.size) && Nat.beq ob.elem e && ob.isReal && Nat.ble (2 * (n + m) * i.bytes) 281474976710656 && Nat.ble (n + m) 4294967296 && Nat.beq zv.cells.size i.size && Nat.blt 0 i.size && new.allOne with
          | true => some (.slice h.length 0 (n + m) (.of h.length), (h.set b none) ++ [some { cells := ob.cells.app new, elem := e, spare := some i.size }])
          | false => none
        | none => none
      | _, _ => none
  | _ => none

/-- More operations on the heap. -/
def heapOp2 (cx : Cx) (slots : Slots) (h : Heap) (o : Oper) : Option (SVal × Heap) :=
  match o.op with
  | .makeSlice t l c => match cx.P.underlying t, evO slots l, evO slots c with
    | some (.slice e), some (.int _ (.num (.ofNat n))), some (.int _ (.num (.ofNat m))) => match cx.P.info? e, zeroT cx.P e with
      | some i, some v => match Nat.ble n m && Nat.ble m 4294967296 && Nat.ble (m * i.bytes) 281474976710656 && Nat.ble (m * i.size) 16777216 && Nat.beq v.cellsOf.len i.size && Nat.blt 0 i.size && v.plain with
        | true => some (.slice h.length 0 n (.known m), h ++ [some { cells := repeatS v.cellsOf m, elem := e, spare := none }])
        | false => none
      | _, _ => none
    | _, _, _ => none
  | .call c => match c.callee with
    | .builtin .clear => match c.args.toList, c.argTypes.toList with
      | [x], [t] => match cx.P.underlying t, evO slots x with
        | some (.slice e), some (.slice b off n _) => match h[b]?, zeroT cx.P e, sizeT cx.P e with
          | some (some blk), some v, some z => match Nat.beq v.cellsOf.len z && Nat.blt 0 z && Nat.blt 0 n && v.plain && v.cellsOf.allOne && blk.isReal with
            | true => match setCells blk.cells off (repeatS v.cellsOf n) with
              | some cells => some (undefS, h.set b (some { blk with cells := cells }))
              | none => none
            | false => none
          | _, _, _ => none
        | some (.slice _), some .nilslice => some (undefS, h)
        | _, _ => none
      | _, _ => none
    | .builtin .copy => match c.args.toList, c.argTypes.toList with
      | [x, y], [t, _] => match cx.P.underlying t, evO slots x, evO slots y with
        | some (.slice e), some (.slice b off n _), some (.slice b2 off2 n2 _) => match h[b]?, h[b2]?, sizeT cx.P e with
          | some (some blk), some (some blk2), some z => match Nat.ble (off2 + min n2 n * z) blk2.cells.len && ((blk2.cells.dropN off2).takeN (min n2 n * z)).allOne && blk.isReal && blk2.isReal with
            | true => match setCells blk.cells off ((blk2.cells.dropN off2).takeN (min n2 n * z)) with
              | some cells => some (.int .i64 (.num (.ofNat (min n2 n))), h.set b (some { blk with cells := cells }))
              | none => none
            | false => none
          | _, _, _ => none
        | some (.slice e), some .nilslice, some (.slice _ _ _ _) => match sizeT cx.P e with
          | some _ => some (.int .i64 (.num 0), h)
          | none => none
        | some (.slice e), some .nilslice, some .nilslice => match sizeT cx.P e with
          | some _ => some (.int .i64 (.num 0), h)
          | none => none
        | some (.slice e), some (.slice _ _ _ _), some .nilslice => match sizeT cx.P e with
          | some _ => some (.int .i64 (.num 0), h)
          | none => none
        | _, _, _ => none
      | _, _ => none
    | .builtin .unsafeString => match c.args.toList, c.argTypes.toList with
      | [p, n], [pt, _] => match evO slots p, evO slots n, cx.P.underlying pt with
        | some (.ptr b 0), some (.int .i64 (.num (.ofNat m))), some (.pointer e) => match h[b]? with
          | some (some blk) => match litBytes (blk.cells.takeN m) with
            | some l => match Nat.beq l.length m && Nat.blt 0 m && Nat.beq blk.elem e && Nat.beq (cx.P.cellsOf e) 1 && blk.isReal && Nat.ble m 4294967296 with
              | true => some (.str (.text l), h.set b none)
              | false => none
            | none => none
          | _ => none
        | _, _, _ => none
      | _, _ => none
    | .builtin .append => match c.args.toList, c.argTypes.toList with
      | [s, x], [t, u] => match cx.P.underlying t, evO slots s, evO slots x with
        | some (.slice e), some sv, some xv => match cx.P.info? e with
          | some i => match newsT cx.P h i.size u xv with
            | some (m, new) => match i.zero with
              | some zv => appendX h i zv e sv m new
              | none => none
            | none => none
          | none => none
        | _, _, _ => none
      | _, _ => none
    | _ => none
  | .range t x => match cx.P.underlying t, evO slots x with
    | some .string, some (.str (.text s)) => some (.abs h.length, h ++ [some { cells := .nil, elem := 0, spare := none, abs := some (true, 2000, .cons (.text s) (.cons (.num 0) .nil)) }])
    | some (.map _ _), some (.abs n) => match h[n]? with
      | some (some blk) => match blk.abs with
        | some (true, k, .nil) => match Nat.beq k 2001 with
          | true => some (.abs h.length, (h.set n none) ++ [some { cells := .nil, elem := 0, spare := none, abs := some (true, 2004, .nil) }])
          | false => none
        | _ => none
      | _ => none
    | _, _ => none
  | .next it false => match evO slots it with
    | some (.abs n) => match h[n]? with
      | some (some blk) => match blk.abs with
        | some (true, k, _) => match Nat.beq k 2004 with
          | true => some (.tup (.cons (.bool (.bit false)) .nil), h)
          | false => none
        | _ => none
      | _ => none
    | _ => none
  | .next it true => match evO slots it with
    | some (.abs n) => match h[n]? with
      | some (some blk) => match blk.abs with
        | some (true, k, .cons (.text s) (.cons (.num (.ofNat pos)) .nil)) => match Nat.beq k 2000 with
          | true => match s[pos]? with
            | some c => match Nat.blt c.toNat 128 with
              | true => some (.tup (.cons (.bool (.bit true)) (.cons (.int .i64 (.num (.ofNat pos))) (.cons (.int .i32 (.num (.ofNat c.toNat))) .nil))), h.set n (some { blk with abs := some (true, 2000, .cons (.text s) (.cons (.num (.ofNat (pos + 1))) .nil)) }))
              | false => none
            | none => some (.tup (.cons (.bool (.bit false)) .nil), h)
          | false => none
        | _ => none
      | _ => none
    | _ => none
  | .convert s d x => match cx.P.underlying s, cx.P.underlying d, evO slots x with
    | some _, some (.slice e), some (.str (.text l)) => match cx.P.underlying e with
      | some (.int .u8) => some (.abs h.length, h ++ [some { cells := .nil, elem := 0, spare := none, abs := some (true, 2005, .cons (.text l) .nil) }])
      | _ => none
    | _, _, _ => none
  | .lookup t x i ok => match cx.P.underlying t, evO slots x, evO slots i with
    | some (.map kt et), some (.abs n), some (.str (.text s)) => match cx.P.underlying kt, zeroT cx.P et, h[n]? with
      | some .string, some z, some (some blk) => match blk.abs with
        | some (true, k, d) => match Nat.beq k 2001, lookF s d with
          | true, some r => match r, ok with
            | some b, true => some (.tup (.cons (.bool (.bit b)) (.cons (.bool (.bit true)) .nil)), h)
            | some b, false => some (.bool (.bit b), h)
            | none, true => some (.tup (.cons z (.cons (.bool (.bit false)) .nil)), h)
            | none, false => some (z, h)
          | _, _ => none
        | _ => none
      | _, _, _ => none
    | some (.map kt et), some (.abs n), some (.agg l) => match cx.P.underlying kt, zeroT cx.P et, h[n]? with
      | some (.struct fs), some z, some (some blk) => match blk.abs with
        | some (true, k, .nil) => match Nat.beq k 2001 && fs.toList.all (intPart cx.P l), ok with
          | true, true => some (.tup (.cons z (.cons (.bool (.bit false)) .nil)), h)
          | true, false => some (z, h)
          | false, _ => none
        | _ => none
      | _, _, _ => none
    | _, _, _ => none
  | .mapUpdate t m k v => match cx.P.underlying t, evO slots m, evO slots k, evO slots v with
    | some (.map kt _), some (.abs n), some (.str (.text s)), some (.bool (.bit b)) => match cx.P.underlying kt, h[n]? with
      | some .string, some (some blk) => match blk.abs with
        | some (true, k, d) => match Nat.beq k 2001, lookF s d with
          | true, some none => some (undefS, h.set n (some { blk with abs := some (true, 2001, snocT d (.cons (.text s) (.cons (.bit b) .nil))) }))
          | _, _ => none
        | _ => none
      | _, _ => none
    | _, _, _, _ => none
  | .slice t x lo hi none => match cx.P.underlying t, evO slots x with
    | some (.slice e), some (.slice _ _ n c) => match sizeT cx.P e, boundE slots 0 lo, boundE slots n hi with
      | some z, some l, some u => match Nat.beq l u && roomT h z u c with
        | true => some (.abs h.length, h ++ [some { cells := .nil, elem := 0, spare := none, abs := some (true, 2007, .nil) }])
        | false => none
      | _, _, _ => none
    | _, _ => none
  | .makeMap _ none => some (.abs h.length, h ++ [some { cells := .nil, elem := 0, spare := none, abs := some (true, 2001, .nil) }])
  | _ => none

/-! ### Calls, regions, code -/

structure Res where
  v : SVal
  h : Heap
  pc : Tm
  deriving Inhabited

inductive Ex where
  | normal
  | exit (id : Nat)
  | ret
  | goto (l : Nat)
  deriving DecidableEq, Inhabited

/-- What is known of a function: its arguments, the heap and what is known give its answers, and the heaps behind them. -/
abbrev Spec := List SVal → Heap → Tm → Tree Res
abbrev Specs := FuncId → Option Spec

/-- Heaps of two ways, one of which was gone. -/
def mergeB (c : Tm) (n : Nat) : Option Blk → Option Blk → Option (Option Blk)
  | some a, some b =>
    if a = b then (match a.cells.sc n with | true => some (some a) | false => none)
    else match a.abs, b.abs with
    | none, none =>
      if a.elem = b.elem ∧ a.spare = b.spare then
        match mergeV c a.cells b.cells with
        | some l => match l.sc n with
          | true => some (some { a with cells := l })
          | false => none
        | none => none
      else none
    | some (o, k, s), some (o', k', u) =>
      if o = o' ∧ k = k' ∧ a.cells = .nil ∧ b.cells = .nil then some (some { a with abs := some (o, k, mkIte c s u) }) else none
    | _, _ => none
  | _, _ => some none

def mergeH (c : Tm) (n : Nat) : Nat → Heap → Heap → Option Heap
  | 0, _, _ => some []
  | k + 1, a :: h1, b :: h2 => match mergeB c n a b, mergeH c n k h1 h2 with
    | some x, some r => some (x :: r)
    | _, _ => none
  | _ + 1, _, _ => none

/-- Answers of calls on two ways are one. h: the heap ahead of the call. -/
def joinR (h : Heap) (pc c : Tm) (a b : Res) : Option Res :=
  match mergeV c a.v b.v with
  | some v => match v.sc h.length with
    | true => match mergeH c h.length h.length a.h b.h with
      | some h' => some ⟨v, h', pc⟩
      | none => none
    | false => none
  | none => none

/-! ### Ways that are kept apart -/

def isIte : Tm → Bool
  | .ite _ _ _ => true
  | _ => false

def niceV (c : Tm) : SVal → SVal → Bool
  | .int _ a, .int _ b => decide (a = b) || !isIte (mkIte c a b)
  | .agg a, .agg b => niceV c a b
  | .tup a, .tup b => niceV c a b
  | .cons a r, .cons b s => niceV c a b && niceV c r s
  | _, _ => true

def niceS (c : Tm) (s1 s2 : Slots) : Slots → Bool
  | [] => true
  | (k, _) :: r => (match s1.get k, s2.get k with
    | some a, some b => niceV c a b
    | _, _ => true) && niceS c s1 s2 r

def niceB (c : Tm) : Option Blk → Option Blk → Bool
  | some a, some b => niceV c a.cells b.cells && (match a.abs, b.abs with
    | some (_, _, s), some (_, _, u) => decide (s = u) || !isIte (mkIte c s u)
    | _, _ => true)
  | none, none => true
  | _, _ => false

def niceH (c : Tm) : Heap → Heap → Bool
  | a :: r, b :: s => niceB c a b && niceH c r s
  | _, _ => true

def joinRs (sharp : Bool) (h : Heap) (pc c : Tm) (a b : Res) : Option Res :=
  match sharp && !(niceV c a.v b.v && niceH c a.h b.h) with
  | true => none
  | false => joinR h pc c a b

def impT (c t : Tm) : Tm := mkOr (mkNot c) t

/-- A tree that is one leaf: what must be so, and the leaf. -/
def Tree.single {α : Type} : Tree α → Option (List Tm × α)
  | .leaf a => some ([], a)
  | .assert c t => t.single.map fun (cs, a) => (c :: cs, a)
  | _ => none

/-- Ways are made one where they can be. -/
def squash {α : Type} (join : Tm → α → α → Option α) : Tree α → Tree α
  | .leaf a => .leaf a
  | .fail w => .fail w
  | .assert c t => .assert c (squash join t)
  | .ite c t e =>
    let t' := squash join t
    let e' := squash join e
    match t'.single, e'.single with
    | some (cs, a), some (ds, b) => match join c a b with
      | some x => Tree.must (cs.map (impT c) ++ ds.map (impT (mkNot c))) (.leaf x)
      | none => .ite c t' e'
    | _, _ => .ite c t' e'

def resultsT (cx : Cx) (σ : St) : List ResultVar → Option (List SVal)
  | [] => some []
  | .tmp t :: r => match σ.get t, resultsT cx σ r with
    | some v, some l => some (v :: l)
    | _, _ => none
  | .cell a t :: r => match σ.get a, resultsT cx σ r with
    | some (.ptr b off), some l => match loadT cx σ.heap t (.ptr b off) with
      | some (v, []) => some (v :: l)
      | _ => none
    | _, _ => none

def resultT (cx : Cx) (fn : Func) (σ : St) : Option SVal :=
  match resultsT cx σ fn.results.toList with
  | some [v] => some v
  | some l => some (.tup (.ofList l))
  | none => none

def argSlots : Nat → List SVal → Slots
  | _, [] => []
  | i, v :: r => (i, some v) :: argSlots (i + 1) r

/-- Do the blocks name none from n on? -/
def heapSc (n : Nat) : Heap → Bool
  | [] => true
  | none :: r => heapSc n r
  | some b :: r => b.cells.sc n && heapSc n r

/-- What a call made and nobody names any more is forgotten. -/
def gcR (n : Nat) (r : Res) : Res :=
  match Nat.ble (n + 4) r.h.length with
  | false => r
  | true => match r.v.sc n with
    | false => r
    | true => match heapSc n (r.h.take n) with
      | false => r
      | true => ⟨r.v, r.h.take n, r.pc⟩

def callT (cx : Cx) (S : Specs) (runC : Code → St → Tree (Ex × St)) (f : FuncId) (args : List SVal) (h : Heap) (pc : Tm) : Tree Res :=
  match S f with
  | some sp => sp args h pc
  | none =>
    match cx.P.funcs[f]? with
    | none => .fail "no such function"
    | some fn => match fn.body with
      | none => .fail "no body"
      | some c =>
        match Nat.ble args.length fn.ntmps with
        | false => .fail "arguments"
        | true =>
        squash (joinRs cx.sharp h pc) ((runC c { n := fn.ntmps, slots := argSlots 0 args, heap := h, pc := pc }).bind fun (e, σ) =>
          match e with
          | .exit _ => .fail "exit"
          | .goto _ => .fail "goto"
          | _ => match σ.dfs.all (fun f => memNat f cx.quiet), resultT cx fn σ with
            | true, some v => .leaf (gcR h.length ⟨v, σ.heap, σ.pc⟩)
            | true, none => .fail "results"
            | false, _ => .fail "defers")

def opName : Op → String
  | .move .. => "move" | .assign .. => "assign" | .pick .. => "pick" | .build .. => "build" | .load .. => "load" | .store .. => "store" | .nilCheck .. => "nilCheck"
  | .binOp .. => "binOp" | .unOp .. => "unOp" | .convert .. => "convert" | .makeFunc .. => "makeFunc" | .fieldAddr .. => "fieldAddr" | .field .. => "field"
  | .indexAddr .. => "indexAddr" | .index .. => "index" | .slice .. => "slice" | .box .. => "box" | .alloc .. => "alloc" | .call .. => "call" | .extract .. => "extract"
  | .typeAssert .. => "typeAssert" | .buildSlice .. => "buildSlice" | .lookup .. => "lookup" | .next .. => "next" | .entry .. => "entry" | .defer .. => "defer" | .panic .. => "panic" | _ => "?"

/-- A method of a type, whose receiver is the value itself. -/
def methodT (P : Program) (t : TypeId) (name : String) : Option FuncId :=
  match P.info? t with
  | some i => match i.methods.find? (·.name == name) with
    | some m => match m.path.toList, m.func, P.underlying t with
      | [], some (g, true), some (.pointer _) => some g
      | [], some (_, false), some (.pointer _) => none
      | [], some (g, false), some _ => some g
      | _, _, _ => none
    | none => none
  | none => none

def opT (cx : Cx) (S : Specs) (runC : Code → St → Tree (Ex × St)) (σ : St) (o : Oper) : Tree Res :=
  match pureOp cx σ.slots σ.heap σ.pc o with
  | some (v, cs) => Tree.mustP σ.pc cs (.leaf ⟨v, σ.heap, σ.pc⟩)
  | none => match heapOp cx σ.slots σ.heap o with
    | some (v, h) => .leaf ⟨v, h, σ.pc⟩
    | none => match storeOp cx σ.slots σ.heap o with
    | some (h, cs) => Tree.mustP σ.pc cs (.leaf ⟨undefS, h, σ.pc⟩)
    | none => match pureOp2 cx σ.slots σ.heap o with
    | some v => .leaf ⟨v, σ.heap, σ.pc⟩
    | none => match heapOp2 cx σ.slots σ.heap o with
    | some (v, h) => .leaf ⟨v, h, σ.pc⟩
    | none => match o.op with
      | .call c => match c.callee with
        | .value f => match evO σ.slots f, evs σ.slots c.args.toList with
          | some (.func (.func g) first captured), some args => callT cx S runC g (first.toList ++ args ++ captured.toList) σ.heap σ.pc
          | _, _ => .fail ("call " ++ o.pos)
        | .invoke r name => match evO σ.slots r, evs σ.slots c.args.toList with
          | some (.iface t v), some args => match methodT cx.P t name with
            | some g => callT cx S runC g (v :: args) σ.heap σ.pc
            | none => .fail ("method " ++ o.pos)
          | _, _ => .fail ("invoke " ++ o.pos)
        | _ => .fail ("callee " ++ o.pos)
      | _ => .fail ("operation " ++ o.pos ++ " " ++ opName o.op)

/-- Is an operation wanted? -/
def guardT (all : List Oper) (σ : St) (o : Oper) : Option Tm :=
  match o.guard with
  | none => some (.bit true)
  | some (j, want) => match all[j]? with
    | some oj => match oj.dst with
      | some d => match σ.get d with
        | some (.bool t) => some (match want with | true => t | false => mkNot t)
        | some (.tup .nil) => some (.bit false)
        | _ => none
      | none => none
    | none => none

/-- A call that is put off: the function. -/
def deferT (slots : Slots) (o : Oper) : Option FuncId :=
  match o.op with
  | .defer c => match c.callee, c.args.toList with
    | .value f, [] => match evO slots f with
      | some (.func (.func g) .nil _) => some g
      | _ => none
    | _, _ => none
  | _ => none

def opsT (cx : Cx) (S : Specs) (runC : Code → St → Tree (Ex × St)) (all : List Oper) : List Oper → St → Tree St
  | [], σ => .leaf σ
  | o :: r, σ =>
    let go (σ : St) : Tree St := match deferT σ.slots o with
      | some f => opsT cx S runC all r ({ σ with dfs := f :: σ.dfs }.put o.dst undefS)
      | none => (opT cx S runC σ o).bind fun x => opsT cx S runC all r ({ σ with heap := x.h, pc := x.pc }.put o.dst x.v)
    let skip (σ : St) : Tree St := opsT cx S runC all r (σ.put o.dst undefS)
    match guardT all σ o with
    | none => .fail ("guard " ++ o.pos)
    | some g => match decideT σ.pc g with
      | some true => go σ
      | some false => skip σ
      | none => .ite g (go { σ with pc := mkAnd σ.pc g }) (skip { σ with pc := mkAnd σ.pc (mkNot g) })

/-! ### Regions whose order is open -/

def memNC (k : Nat) : List Nat → Bool
  | [] => false
  | a :: r => Nat.beq k a || memNC k r
noncomputable def memN (k : Nat) (l : List Nat) : Bool :=
  List.rec (motive := fun _ => Bool) false (fun a _ g => Bool.rec (motive := fun _ => Bool) g true (Nat.beq k a)) l
theorem memN_nil (k : Nat) : memN k [] = false := rfl
theorem memN_c (k a : Nat) (r : List Nat) : memN k (a :: r) = (Nat.beq k a || memN k r) := by
  show Bool.rec (motive := fun _ => Bool) (memN k r) true (Nat.beq k a) = _
  cases Nat.beq k a <;> rfl
theorem memN_eqC : @memN = @memNC := by
  funext k l
  induction l with
  | nil => rfl
  | cons a r ih => rw [memN_c, memNC, ih]

def disjointN : List Nat → List Nat → Bool
  | [], _ => true
  | a :: r, l => !memN a l && disjointN r l

def SVal.names : SVal → List Nat
  | .ptr b _ => [b]
  | .ptrI b _ _ _ => [b]
  | .ptrA b _ _ _ => [b]
  | .abs b => [b]
  | .slice b _ _ (.known _) => [b]
  | .slice b _ _ (.of c) => [b, c]
  | .slice b _ _ (.sub c _) => [b, c]
  | .agg l => l.names
  | .tup l => l.names
  | .func _ a b => a.names ++ b.names
  | .iface _ v => v.names
  | .cons a r => a.names ++ r.names
  | _ => []

/-- All blocks that are reached from some. -/
def reachN (h : Heap) : Nat → List Nat → List Nat → List Nat
  | 0, _, seen => seen
  | _, [], seen => seen
  | n + 1, a :: todo, seen =>
    match memN a seen with
    | true => reachN h n todo seen
    | false => match h[a]? with
      | some (some b) => reachN h n (b.cells.names ++ todo) (a :: seen)
      | _ => reachN h n todo seen

def operandsOf : Op → List Operand
  | .move x | .assign x | .box _ x | .load _ x | .nilCheck x | .unOp _ _ x | .convert _ _ x | .fieldAddr _ x _ | .field _ x _ | .extract x _ => [x]
  | .pick c a b => [c, a, b]
  | .build _ ps | .buildSlice _ _ ps => ps.toList.map (·.2)
  | .store _ a v | .binOp _ _ a v _ | .indexAddr _ a v | .index _ a v => [a, v]
  | .makeFunc _ a b => a.toList ++ b.toList
  | .slice _ x l h m => x :: (l.toList ++ h.toList ++ m.toList)
  | .makeSlice _ a b => [a, b]
  | .makeInterface _ x | .typeAssert x _ _ _ | .range _ x | .next x _ => [x]
  | .lookup _ x i _ => [x, i]
  | .mapUpdate _ m k v => [m, k, v]
  | .call c => (match c.callee with | .value f => [f] | .invoke f _ => [f] | _ => []) ++ c.args.toList
  | _ => []

def slotsIn : List Operand → List Nat
  | [] => []
  | .tmp t :: r => t :: slotsIn r
  | _ :: r => slotsIn r

/-- The slots that an operation looks at. -/
def looksT (all : List Oper) (o : Oper) : List Nat :=
  match o.guard with
  | none => slotsIn (operandsOf o.op)
  | some (j, _) => match all[j]? with
    | some oj => match oj.dst with
      | some d => d :: slotsIn (operandsOf o.op)
      | none => slotsIn (operandsOf o.op)
    | none => slotsIn (operandsOf o.op)

/-- The blocks that an operation may touch. -/
def touchT (slots : Slots) (h : Heap) (o : Oper) : List Nat :=
  match o.op with
  | .load _ a => match evO slots a with
    | some v => v.names
    | none => []
  | .store _ a _ => match evO slots a with
    | some v => v.names
    | none => []
  | .indexAddr _ a _ => match evO slots a with
    | some (.abs n) => [n]
    | _ => []
  | .convert _ _ a => match evO slots a with
    | some (.slice b off n c) => (SVal.slice b off n c).names
    | _ => []
  | .slice _ a _ _ _ => match evO slots a with
    | some v => v.names
    | none => []
  | .range _ a => match evO slots a with
    | some v => v.names
    | none => []
  | .next a _ => match evO slots a with
    | some v => v.names
    | none => []
  | .lookup _ a _ _ => match evO slots a with
    | some v => v.names
    | none => []
  | .mapUpdate _ a _ _ => match evO slots a with
    | some v => v.names
    | none => []
  | .call c => match c.callee with
    | .builtin .append => match evs slots c.args.toList with
      | some l => (SVal.ofList l).names
      | none => []
    | .builtin .clear => match evs slots c.args.toList with
      | some l => (SVal.ofList l).names
      | none => []
    | .builtin .copy => match evs slots c.args.toList with
      | some l => (SVal.ofList l).names
      | none => []
    | .builtin .unsafeSliceData => match evs slots c.args.toList with
      | some l => (SVal.ofList l).names
      | none => []
    | .builtin .unsafeString => match evs slots c.args.toList with
      | some l => (SVal.ofList l).names
      | none => []
    | .invoke f _ => match evO slots f, evs slots c.args.toList with
      | some u, some l => reachN h 1000 ((SVal.cons u (SVal.ofList l)).names) []
      | _, _ => []
    | .builtin .len => match evs slots c.args.toList with
      | some [.abs n] => [n]
      | _ => []
    | .value f => match evO slots f, evs slots c.args.toList with
      | some u, some l => reachN h 1000 ((SVal.cons u (SVal.ofList l)).names) []
      | _, _ => []
    | _ => []
  | _ => []

def restrictHC (F : List Nat) : Nat → Heap → Heap
  | _, [] => []
  | m, b :: r => (match memN m F with | true => b | false => none) :: restrictHC F (m + 1) r
noncomputable def restrictH (F : List Nat) (m : Nat) (h : Heap) : Heap :=
  List.rec (motive := fun _ => Nat → Heap) (fun _ => []) (fun b _ g m => Bool.rec (motive := fun _ => Option Blk) none b (memN m F) :: g (m + 1)) h m
theorem restrictH_nil (F : List Nat) (m : Nat) : restrictH F m [] = [] := rfl
theorem restrictH_c (F : List Nat) (m : Nat) (b : Option Blk) (r : Heap) : restrictH F m (b :: r) = (match memN m F with | true => b | false => none) :: restrictH F (m + 1) r := by
  show Bool.rec (motive := fun _ => Option Blk) none b (memN m F) :: restrictH F (m + 1) r = _
  cases memN m F <;> rfl
theorem restrictH_eqC : @restrictH = @restrictHC := by
  funext F m h
  induction h generalizing m with
  | nil => rfl
  | cons b r ih => rw [restrictH_c, restrictHC, ih]

/-- Blocks that were touched, and are others now. -/
def changedN (h h' : Heap) : List Nat → List Nat
  | [] => []
  | m :: r => if h[m]? = h'[m]? then changedN h h' r else m :: changedN h h' r

def overlayHC (W : List Nat) : Nat → Heap → Heap → Heap
  | m, b :: r, c :: s => (match memN m W with | true => c | false => b) :: overlayHC W (m + 1) r s
  | _, [], s => s
  | _, h, [] => h
noncomputable def overlayH (W : List Nat) (m : Nat) (h x : Heap) : Heap :=
  List.rec (motive := fun _ => Nat → Heap → Heap) (fun _ s => s)
    (fun b r g m s => List.rec (motive := fun _ => Heap) (b :: r) (fun c s' _ => Bool.rec (motive := fun _ => Option Blk) b c (memN m W) :: g (m + 1) s') s) h m x
theorem overlayH_nil (W : List Nat) (m : Nat) (x : Heap) : overlayH W m [] x = x := rfl
theorem overlayH_n (W : List Nat) (m : Nat) (b : Option Blk) (r : Heap) : overlayH W m (b :: r) [] = b :: r := rfl
theorem overlayH_c (W : List Nat) (m : Nat) (b c : Option Blk) (r s : Heap) : overlayH W m (b :: r) (c :: s) = (match memN m W with | true => c | false => b) :: overlayH W (m + 1) r s := by
  show Bool.rec (motive := fun _ => Option Blk) b c (memN m W) :: overlayH W (m + 1) r s = _
  cases memN m W <;> rfl
theorem overlayH_eqC : @overlayH = @overlayHC := by
  funext W m h x
  induction h generalizing m x with
  | nil => cases x <;> rfl
  | cons b r ih =>
    cases x with
    | nil => rfl
    | cons c s => rw [overlayH_c, overlayHC, ih]

/-- A step of a region: the operation; is it left out; what it looks at; its answer; which blocks it changed. -/
structure Stp where
  o : Oper
  skip : Bool
  σ : St
  x : Res
  F : List Nat
  W : List Nat

def viewT (all : List Oper) (σ : St) (o : Oper) (F : List Nat) : St :=
  { σ with slots := (looksT all o).map fun k => (k, σ.slots.get k), heap := restrictH F 0 σ.heap }

def opsD (cx : Cx) (S : Specs) (runC : Code → St → Tree (Ex × St)) (all : List Oper) : List Oper → St → Tree (St × List Stp)
  | [], σ => .leaf (σ, [])
  | o :: r, σ =>
    let go (σ : St) : Tree (St × List Stp) :=
      let F := touchT σ.slots σ.heap o
      let σ' := viewT all σ o F
      (opT cx S runC σ' o).bind fun x =>
        let W := changedN σ'.heap x.h F
        (opsD cx S runC all r ({ σ with heap := overlayH W 0 σ.heap x.h }.put o.dst x.v)).bind fun p => .leaf (p.1, ⟨o, false, σ', x, F, W⟩ :: p.2)
    let skip (σ : St) : Tree (St × List Stp) :=
      let σ' := viewT all σ o []
      (opsD cx S runC all r (σ.put o.dst undefS)).bind fun p => .leaf (p.1, ⟨o, true, σ', ⟨undefS, σ.heap, σ.pc⟩, [], []⟩ :: p.2)
    match guardT all (viewT all σ o []) o with
    | none => .fail ("guard " ++ o.pos)
    | some g => match decideT σ.pc g with
      | some true => go σ
      | some false => skip σ
      | none => .ite g (go { σ with pc := mkAnd σ.pc g }) (skip { σ with pc := mkAnd σ.pc (mkNot g) })

def edgesB : List Edge → List Nat
  | [] => []
  | e :: r => match Region.binds .any e with
    | true => e.on :: edgesB r
    | false => edgesB r

/-- The names that a step's answer speaks of. -/
def blockNames (h : Heap) : List Nat → List Nat
  | [] => []
  | m :: r => (match h[m]? with | some (some b) => b.cells.names | _ => []) ++ blockNames h r

def heapNames : Heap → List Nat
  | [] => []
  | some b :: r => b.cells.names ++ heapNames r
  | none :: r => heapNames r

/-- What is asked of two steps, the first of which stands ahead: the second one waits for it, or they have nothing in common. -/
structure Sum where
  dst : Option Nat
  looks : List Nat
  edges : List Nat
  skip : Bool
  F : List Nat
  W : List Nat
  lo : Nat
  hi : Nat
  names : List Nat

def Stp.sum (all : List Oper) (s : Stp) : Sum :=
  { dst := s.o.dst, looks := looksT all s.o, edges := edgesB s.o.after.toList, skip := s.skip, F := s.F, W := s.W, lo := s.σ.heap.length, hi := s.x.h.length,
    names := match s.skip with | true => [] | false => s.x.v.names ++ blockNames s.x.h s.W ++ heapNames (s.x.h.drop s.σ.heap.length) }

def dstIn (d : Option Nat) (l : List Nat) : Bool :=
  match d with
  | some d => memN d l
  | none => false

def sameDst (a b : Option Nat) : Bool :=
  match a, b with
  | some a, some b => Nat.beq a b
  | _, _ => false

def noneIn (lo hi : Nat) : List Nat → Bool
  | [] => true
  | a :: r => !(Nat.ble lo a && Nat.blt a hi) && noneIn lo hi r

def pairOk (i : Nat) (a b : Sum) : Bool :=
  memN i b.edges ||
  (!dstIn a.dst b.looks && !sameDst a.dst b.dst && !dstIn b.dst a.looks &&
   (a.skip || b.skip || (disjointN a.W b.F && disjointN b.W a.F && noneIn a.lo a.hi b.F && noneIn a.lo a.hi b.names)))

/-- What a step waits for, and what that waits for: as bits. -/
def maskE (cl : List Nat) : List Nat → Nat
  | [] => 0
  | e :: r => Nat.lor (Nat.lor (Nat.shiftLeft 1 e) (cl.getD e 0)) (maskE cl r)

def masksE : List Nat → List Sum → List Nat
  | acc, [] => acc
  | acc, a :: r =>
    match maskE acc a.edges with
    | 0 => masksE (acc ++ [0]) r
    | n + 1 => masksE (acc ++ [n + 1]) r

def bitN (m i : Nat) : Bool := Nat.beq (Nat.land (Nat.shiftRight m i) 1) 1

def pairsFrom (i : Nat) (a : Sum) : List Nat → List Sum → Bool
  | _, [] => true
  | [], _ :: _ => false
  | m :: ms, b :: r => (pairOk i a b || bitN m i) && pairsFrom i a ms r

def allBelow (n : Nat) : List Nat → Bool
  | [] => true
  | a :: r => Nat.blt a n && allBelow n r

def detGo : Nat → List Nat → List Sum → Bool
  | _, _, [] => true
  | i, ms, a :: r => allBelow i a.edges && allBelow a.lo a.F && Nat.ble a.lo a.hi && pairsFrom i a ms.tail r && detGo (i + 1) ms.tail r

def detFrom (l : List Sum) : Bool := detGo 0 (masksE [] l) l

/-- Slots of two ways that began at one. -/
def mergeS (c : Tm) (n : Nat) (s1 s2 : Slots) : Slots → Slots → Option Slots
  | [], acc => some acc
  | (k, _) :: r, acc =>
    match s1.get k, s2.get k with
    | some a, some b =>
      match mergeV c a b with
      | some v => match v.sc n with
        | true => mergeS c n s1 s2 r ((k, some v) :: acc)
        | false => none
      | none => if a = undefS ∨ b = undefS then mergeS c n s1 s2 r ((k, none) :: acc) else none
    | _, _ => mergeS c n s1 s2 r ((k, none) :: acc)

def sameDfs : List Nat → List Nat → Bool
  | [], [] => true
  | a :: r, b :: s => Nat.beq a b && sameDfs r s
  | _, _ => false

/-- States of two ways are one. σ: the state ahead of the ways. -/
def joinS (σ : St) (c : Tm) (a b : St) : Option St :=
  let na := a.slots.take (a.slots.length - σ.slots.length)
  let nb := b.slots.take (b.slots.length - σ.slots.length)
  match mergeS c σ.heap.length a.slots b.slots (na ++ nb) σ.slots, sameDfs a.dfs σ.dfs && sameDfs b.dfs σ.dfs with
  | some s, true => match mergeH c σ.heap.length σ.heap.length a.heap b.heap with
    | some h => some { σ with slots := s, heap := h }
    | none => none
  | _, _ => none

def joinSs (sharp : Bool) (σ : St) (c : Tm) (a b : St) : Option St :=
  match sharp && !(niceS c a.slots b.slots (a.slots.take (a.slots.length - σ.slots.length)) && niceH c a.heap b.heap) with
  | true => none
  | false => joinS σ c a b

def joinE (σ : St) (c : Tm) (a b : Ex × St) : Option (Ex × St) :=
  match a.1, b.1 with
  | .normal, .normal => (joinS σ c a.2 b.2).map fun s => (.normal, s)
  | _, _ => none

def joinEs (sharp : Bool) (σ : St) (c : Tm) (a b : Ex × St) : Option (Ex × St) :=
  match sharp && !(niceS c a.2.slots b.2.slots (a.2.slots.take (a.2.slots.length - σ.slots.length)) && niceH c a.2.heap b.2.heap) with
  | true => none
  | false => joinE σ c a b

/-- What each way has come by is known behind it. -/
def Tree.told (p : Tm) : Tree St → Tree St
  | .leaf s => .leaf { s with pc := mkAnd s.pc p }
  | .ite c t e => .ite c (t.told (mkAnd p c)) (e.told (mkAnd p (mkNot c)))
  | .assert c t => .assert c (t.told p)
  | .fail w => .fail w

theorem Tree.told_get {ρ : Env} : ∀ (t : Tree St) (p : Tm) (s' : St), (p.den ρ).asBool = true → (t.told p).get ρ = some s' → ∃ s q, t.get ρ = some s ∧ (q.den ρ).asBool = true ∧ s' = { s with pc := mkAnd s.pc q }
  | .leaf s, p, s', hp, h => by
    simp only [Tree.told, Tree.get, Option.some.injEq] at h
    exact ⟨s, p, rfl, hp, h.symm⟩
  | .ite c t e, p, s', hp, h => by
    simp only [Tree.told, Tree.get] at h ⊢
    split at h
    · rename_i hc
      exact Tree.told_get t _ s' (by rw [mkAnd_den, hp, hc]; rfl) h
    · rename_i hc
      exact Tree.told_get e _ s' (by rw [mkAnd_den, mkNot_den, hp, hc]; rfl) h
  | .assert c t, p, s', hp, h => by
    simp only [Tree.told, Tree.get] at h ⊢
    split at h
    · exact Tree.told_get t p s' hp h
    · cases h
  | .fail w, p, s', hp, h => by simp [Tree.told, Tree.get] at h

/-- Of slots that were put more than once the last ones; k: so many are looked at. -/
def compactNC : Nat → Nat → Slots → Slots
  | 0, _, s => s
  | _, _, [] => []
  | k + 1, seen, (j, v) :: r => match bitN seen j with
    | true => compactNC k seen r
    | false => match Nat.lor seen (Nat.shiftLeft 1 j) with
      | 0 => (j, v) :: compactNC k 0 r
      | m + 1 => (j, v) :: compactNC k (m + 1) r
noncomputable def compactN (k seen : Nat) (s : Slots) : Slots :=
  List.rec (motive := fun _ => Nat → Nat → Slots) (fun _ _ => [])
    (fun p r g k seen => Nat.rec (motive := fun _ => Slots) (p :: r)
      (fun k' _ => Bool.rec (motive := fun _ => Slots) (Nat.rec (motive := fun _ => Slots) (p :: g k' 0) (fun m _ => p :: g k' (m + 1)) (Nat.lor seen (Nat.shiftLeft 1 p.1))) (g k' seen) (bitN seen p.1)) k) s k seen
theorem compactN_nil (k seen : Nat) : compactN k seen [] = [] := rfl
theorem compactN_0 (seen : Nat) (s : Slots) : compactN 0 seen s = s := by cases s <;> rfl
theorem compactN_c (k seen j : Nat) (v : Option SVal) (r : Slots) : compactN (k + 1) seen ((j, v) :: r) = match bitN seen j with
    | true => compactN k seen r
    | false => match Nat.lor seen (Nat.shiftLeft 1 j) with
      | 0 => (j, v) :: compactN k 0 r
      | m + 1 => (j, v) :: compactN k (m + 1) r := by
  cases h : bitN seen j with
  | true =>
    show Bool.rec (motive := fun _ => Slots) _ _ (bitN seen j) = _
    rw [h]; rfl
  | false =>
    show Bool.rec (motive := fun _ => Slots) _ _ (bitN seen j) = _
    rw [h]
    show Nat.rec (motive := fun _ => Slots) _ _ (Nat.lor seen (Nat.shiftLeft 1 j)) = match Nat.lor seen (Nat.shiftLeft 1 j) with
      | 0 => (j, v) :: compactN k 0 r
      | m + 1 => (j, v) :: compactN k (m + 1) r
    cases Nat.lor seen (Nat.shiftLeft 1 j) <;> rfl
theorem compactN_eqC : @compactN = @compactNC := by
  funext k seen s
  induction s generalizing k seen with
  | nil => cases k <;> rfl
  | cons p r ih =>
    obtain ⟨j, v⟩ := p
    cases k with
    | zero => rfl
    | succ k =>
      rw [compactN_c, compactNC]
      simp only [ih]

def compactS (σ s : St) : St := { s with slots := compactN (s.slots.length - σ.slots.length) 0 s.slots }

/-- A scope: jumps to its labels go on in it. -/
def scopeT (runC : Code → St → Tree (Ex × St)) (σ0 : St) (b : Code) : Nat → Code → St → Tree (Ex × St)
  | 0, _, _ => .fail "fuel"
  | n + 1, c, σ => (runC c σ).bind fun (e, s) => match e with
    | .goto l => match findLabel b l with
      | some rest => scopeT runC σ0 b n rest (compactS σ0 s)
      | none => .fail "label"
    | e => .leaf (e, s)

/-- A loop: rounds, so many at most. -/
def roundsT (runC : Code → St → Tree (Ex × St)) (σ0 : St) (b : Code) : Nat → St → Tree (Ex × St)
  | 0, _ => .fail "fuel"
  | n + 1, σ => (runC b σ).bind fun (e, s) => match e with
    | .normal => roundsT runC σ0 b n (compactS σ0 s)
    | e => .leaf (e, s)

def run (cx : Cx) (S : Specs) : Nat → Code → St → Tree (Ex × St)
  | 0, _, _ => .fail "fuel"
  | n + 1, c, σ =>
    match c with
    | .skip => .leaf (.normal, σ)
    | .label _ => .leaf (.normal, σ)
    | .region _ ops draw => match draw with
      | true => (squash (joinSs cx.sharp σ) (((opsD cx S (run cx S n) ops.toList ops.toList σ).bind fun p =>
        match detFrom (p.2.map (Stp.sum ops.toList)) with
        | true => Tree.leaf p.1
        | false => Tree.fail "an order that is open").told (.bit true))).bind fun s => .leaf (.normal, s)
      | false => (squash (joinSs cx.sharp σ) (opsT cx S (run cx S n) ops.toList ops.toList σ)).bind fun s => .leaf (.normal, s)
    | .seq a b => (run cx S n a σ).bind fun (e, s) => match e with
      | .normal => run cx S n b s
      | e => .leaf (e, s)
    | .cond x a b => match evO σ.slots x with
      | some (.bool t) => match decideT σ.pc t with
        | some true => run cx S n a σ
        | some false => run cx S n b σ
        | none => squash (joinEs cx.sharp σ) (.ite t (run cx S n a { σ with pc := mkAnd σ.pc t }) (run cx S n b { σ with pc := mkAnd σ.pc (mkNot t) }))
      | _ => .fail "condition"
    | .block id b => (run cx S n b σ).bind fun (e, s) => match e with
      | .exit id' => if id' = id then .leaf (.normal, s) else .leaf (.exit id', s)
      | e => .leaf (e, s)
    | .loop b => roundsT (run cx S n) σ b n σ
    | .scope b => scopeT (run cx S n) σ b n b σ
    | .goto l => .leaf (.goto l, σ)
    | .exit id => .leaf (.exit id, σ)
    | .ret => .leaf (.ret, σ)
    | _ => .fail "code"

theorem joinRs_eq {sharp : Bool} {h : Heap} {pc c : Tm} {a b x : Res} (e : joinRs sharp h pc c a b = some x) : joinR h pc c a b = some x := by
  unfold joinRs at e; split at e
  · cases e
  · exact e
theorem joinSs_eq {sharp : Bool} {σ : St} {c : Tm} {a b x : St} (e : joinSs sharp σ c a b = some x) : joinS σ c a b = some x := by
  unfold joinSs at e; split at e
  · cases e
  · exact e
theorem joinEs_eq {sharp : Bool} {σ : St} {c : Tm} {a b x : Ex × St} (e : joinEs sharp σ c a b = some x) : joinE σ c a b = some x := by
  unfold joinEs at e; split at e
  · cases e
  · exact e

end
end Go.Sx
