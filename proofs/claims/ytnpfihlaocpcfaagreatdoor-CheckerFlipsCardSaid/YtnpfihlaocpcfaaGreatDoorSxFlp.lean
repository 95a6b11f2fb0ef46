/- Every leaf of a tree is as asked, given the choices that lead to it. -/
import Derived.Test.YtnpfihlaocpcfaaGreatDoorSxBack
namespace Go.Sx
noncomputable section

/-- Every leaf is as asked, given the choices that lead to it. -/
def pxPath (sg : Sg) (R : List Tm → Res → Tm) : Tree Res → List Tm → Kn → Bool
  | .leaf x, p, e => pxT sg (R p x) e fun _ => true
  | .ite c a b, p, e => ev sg (evN sg 5) none c e fun v e => drive 100 e (fun e => truthV e v) fun r e => match r with
    | some true => pxPath sg R a (c :: p) e
    | some false => pxPath sg R b (.op1 .not c :: p) e
    | none => pxPath sg R a (c :: p) e && pxPath sg R b (.op1 .not c :: p) e
  | .assert c t, p, e => pxT sg c e (fun _ => true) && pxPath sg R t p e
  | .fail _, _, _ => false

theorem pxPath_ok {ρ : Env} {sg : Sg} (so : sg.Ok ρ) {R : List Tm → Res → Tm} : ∀ (t : Tree Res) (p : List Tm) (e : Kn), Sats ρ e → (∀ c ∈ p, (c.den ρ).asBool = true) → pxPath sg R t p e = true →
    ∃ x p', t.get ρ = some x ∧ (∀ c ∈ p', (c.den ρ).asBool = true) ∧ ((R p' x).den ρ).asBool = true
  | .leaf x, p, e, S, hp, h => ⟨x, p, rfl, hp, (pxT_ok so S h).1⟩
  | .ite c a b, p, e, S, hp, h => by
    unfold pxPath at h
    obtain ⟨e1, v, S1, hv, h⟩ := ev_ok so 5 c S h
    obtain ⟨e2, r, S2, h, hr⟩ := truth_drive S1 hv h
    have pT : (c.den ρ).asBool = true → ∀ d ∈ c :: p, (d.den ρ).asBool = true := by
      intro hc d hd
      rcases List.mem_cons.1 hd with rfl | hd
      · exact hc
      · exact hp d hd
    have pF : (c.den ρ).asBool = false → ∀ d ∈ Tm.op1 .not c :: p, (d.den ρ).asBool = true := by
      intro hc d hd
      rcases List.mem_cons.1 hd with rfl | hd
      · show (!(c.den ρ).asBool) = true
        rw [hc]; rfl
      · exact hp d hd
    split at h
    · obtain ⟨x, q, h1, h2, h3⟩ := pxPath_ok so a _ e2 S2 (pT (hr true rfl)) h
      exact ⟨x, q, by simp only [Tree.get, hr true rfl]; exact h1, h2, h3⟩
    · obtain ⟨x, q, h1, h2, h3⟩ := pxPath_ok so b _ e2 S2 (pF (hr false rfl)) h
      exact ⟨x, q, by simp only [Tree.get, hr false rfl]; exact h1, h2, h3⟩
    · rw [Bool.and_eq_true] at h
      cases hc : (c.den ρ).asBool
      · obtain ⟨x, q, h1, h2, h3⟩ := pxPath_ok so b _ e2 S2 (pF hc) h.2
        exact ⟨x, q, by simp only [Tree.get, hc]; exact h1, h2, h3⟩
      · obtain ⟨x, q, h1, h2, h3⟩ := pxPath_ok so a _ e2 S2 (pT hc) h.1
        exact ⟨x, q, by simp only [Tree.get, hc]; exact h1, h2, h3⟩
  | .assert c a, p, e, S, hp, h => by
    unfold pxPath at h
    simp only [Bool.and_eq_true] at h
    obtain ⟨h0, _⟩ := pxT_ok so S h.1
    obtain ⟨x, q, h1, h2, h3⟩ := pxPath_ok so a p e S hp h.2
    exact ⟨x, q, by simp only [Tree.get, h0]; exact h1, h2, h3⟩
  | .fail w, p, e, S, hp, h => by simp [pxPath] at h

/-- A term with terms for its variables. -/
def Tm.inst (l : List Tm) : Tm → Tm
  | .var i => l.getD i (.var i)
  | .num n => .num n
  | .bit b => .bit b
  | .text s => .text s
  | .op1 o a => mk1 o (a.inst l)
  | .op2 o a b => mk2 o (a.inst l) (b.inst l)
  | .ite c a b => mkIte (c.inst l) (a.inst l) (b.inst l)
  | .nil => .nil
  | .cons a b => .cons (a.inst l) (b.inst l)
  | .app g a => .app g (a.inst l)

theorem inst_den {ρ ρ' : Env} {l : List Tm} (hf : ρ'.f = ρ.f) (hv : ∀ i, (l.getD i (.var i)).den ρ = ρ'.v i) : ∀ t : Tm, (t.inst l).den ρ = t.den ρ'
  | .var i => hv i
  | .num _ => rfl
  | .bit _ => rfl
  | .text _ => rfl
  | .op1 o a => by rw [Tm.inst, mk1_den, inst_den hf hv a]; rfl
  | .op2 o a b => by rw [Tm.inst, mk2_den, inst_den hf hv a, inst_den hf hv b]; rfl
  | .ite c a b => by rw [Tm.inst, mkIte_den, inst_den hf hv c, inst_den hf hv a, inst_den hf hv b]; rfl
  | .nil => rfl
  | .cons a b => by simp only [Tm.inst, Tm.den, inst_den hf hv a, inst_den hf hv b]
  | .app g a => by simp only [Tm.inst, Tm.den, inst_den hf hv a, hf]
end
end Go.Sx

/- Instructions' halfwords as terms over an instruction's fields: what each one that is read came from. -/
namespace Go.Sx
noncomputable section

/-- Halfwords of an instruction, where its mode and some fact are so; x: a number of twelve bits tells its number. Variables: 0 to 8 the fields, 9 the number of twelve bits, 10 the number without its sign. -/
structure Tmpl where
  mode : Int
  flag : Nat
  x : Bool
  a : Tm
  b : Tm
  deriving DecidableEq

namespace Rd
def N (n : Nat) : Tm := .num (.ofNat n)
def and (a b : Tm) : Tm := .op2 (.and .i64) a b
def or (a b : Tm) : Tm := .op2 (.or .i64) a b
def xor (a b : Tm) : Tm := .op2 (.xor .i64) a b
def shl (a : Tm) (n : Nat) : Tm := match n with | 0 => a | n + 1 => .op2 (.shl .i64) a (N (n + 1))
def shr (a : Tm) (n : Nat) : Tm := match n with | 0 => a | n + 1 => .op2 (.shr .i64) a (N (n + 1))
/-- Some bits of a variable, laid from a place on. -/
def sl (v lo w p : Nat) : Tm := shl (and (shr (.var v) lo) (N (2 ^ w - 1))) p
def ors : List Tm → Tm
  | [] => N 0
  | [a] => a
  | a :: l => or a (ors l)
/-- A narrow one. -/
def n1 (mode : Int) (p : Nat) (l : List Tm) : Tmpl := ⟨mode, 0, false, ors (N p :: l), N 0⟩
def n1f (mode : Int) (flag p : Nat) (l : List Tm) : Tmpl := ⟨mode, flag, false, ors (N p :: l), N 0⟩
def lo3 (p d n : Nat) : Tmpl := n1 2 p [sl n 0 3 3, sl d 0 3 0]
def hi3 (p d : Nat) : Tmpl := n1 2 p [sl d 3 1 7, sl 4 0 4 3, sl d 0 3 0]
def im8 (p d : Nat) : Tmpl := n1 1 p [sl d 0 3 8, sl 5 0 8 0]
def im8w (p d : Nat) : Tmpl := n1 1 p [sl d 0 3 8, sl 5 2 8 0]
def three (p : Nat) : Tmpl := n1 2 p [sl 4 0 3 6, sl 3 0 3 3, sl 2 0 3 0]
def im5 (p s : Nat) : Tmpl := n1 1 p [sl 5 s 5 6, sl 3 0 3 3, sl 2 0 3 0]

/-- A number of three bits, or of eight, taken away: their halfwords are known to differ in one place alone. -/
def sub3 : Tmpl := n1f 1 5 0x1E00 [sl 5 0 3 6, sl 3 0 3 3, sl 2 0 3 0]
def sub8 : Tmpl := n1f 1 6 0x3800 [sl 2 0 3 8, sl 5 0 8 0]

def narT (k : Nat) : List Tmpl :=
  match k with
  | 1 => [lo3 0x4000 2 4]
  | 2 => [lo3 0x4040 2 4]
  | 3 => [lo3 0x4300 2 4]
  | 4 => [lo3 0x4380 2 4]
  | 5 => [n1 1 0x1C00 [sl 5 0 3 6, sl 3 0 3 3, sl 2 0 3 0], im8 0x3000 2, three 0x1800, hi3 0x4400 2]
  | 6 => [lo3 0x4140 2 4]
  | 7 => [sub3, sub8, three 0x1A00]
  | 8 => [lo3 0x4180 2 4]
  | 9 => [n1 1 0x4240 [sl 3 0 3 3, sl 2 0 3 0]]
  | 10 => [im8 0x2000 2, lo3 0x0000 2 4, hi3 0x4600 2]
  | 11 => [lo3 0x43C0 2 4]
  | 12 => [im8 0x2800 3, lo3 0x4280 3 4, hi3 0x4500 3]
  | 13 => [lo3 0x42C0 3 4]
  | 14 => [lo3 0x4200 3 4]
  | 16 => [im5 0x0000 0, lo3 0x4080 2 4]
  | 17 => [im5 0x0800 0, lo3 0x40C0 2 4]
  | 18 => [im5 0x1000 0, lo3 0x4100 2 4]
  | 19 => [lo3 0x41C0 2 4]
  | 20 => [lo3 0x4340 2 3]
  | 25 => [three 0x5800, im5 0x6800 2, im8w 0x9800 2]
  | 26 => [three 0x5C00, im5 0x7800 0]
  | 27 => [three 0x5A00, im5 0x8800 1]
  | 28 => [three 0x5000, im5 0x6000 2, im8w 0x9000 2]
  | 29 => [three 0x5400, im5 0x7000 0]
  | 30 => [three 0x5200, im5 0x8000 1]
  | 31 => [n1 0 0xC800 [sl 3 0 3 8, sl 7 0 8 0]]
  | 32 => [n1 0 0xC000 [sl 3 0 3 8, sl 7 0 8 0]]
  | 33 => [n1 0 0xB400 [sl 7 14 1 8, sl 7 0 8 0]]
  | 34 => [n1 0 0xBC00 [sl 7 15 1 8, sl 7 0 8 0]]
  | 35 => [n1 1 0xD000 [sl 1 0 4 8, sl 5 1 8 0], n1 1 0xE000 [sl 5 1 11 0]]
  | 37 => [n1 1 0xB100 [sl 5 6 1 9, sl 5 1 5 3, sl 3 0 3 0]]
  | 38 => [n1 1 0xB900 [sl 5 6 1 9, sl 5 1 5 3, sl 3 0 3 0]]
  | 39 => [n1 2 0x4700 [sl 4 0 4 3]]
  | 40 => [im8w 0x4800 2]
  | 41 => [im8w 0xA000 2]
  | 42 => [n1 1 0xBF00 [sl 1 0 4 4, sl 5 0 4 0]]
  | 43 => [n1 0 0xBF00 []]
  | 44 => [n1 1 0xBE00 [sl 5 0 8 0]]
  | _ => []

def S : Tm := .ite (.var 8) (N 16) (N 0)
/-- With a number that twelve bits tell. -/
def ex (o : Nat) (s : Tm) (r d : Tm) : Tmpl := ⟨1, 0, true, ors [N (0xF000 + 32 * o), sl 9 11 1 10, s, r], ors [N 0, sl 9 8 3 12, d, sl 9 0 8 0]⟩
def rg (o : Nat) (s : Tm) (r d : Tm) : Tmpl := ⟨2, 0, false, ors [N (0xEA00 + 32 * o), s, r], ors [N 0, d, sl 4 0 4 0]⟩
def r3 : Tm := sl 3 0 4 0
def d8 : Tm := sl 2 0 4 8
def f0 : Tm := N 15
def f8 : Tm := N 0xF00
def s1 : Tm := N 16
def both (o : Nat) : List Tmpl := [ex o S r3 d8, rg o S r3 d8]
def cmps (o : Nat) : List Tmpl := [ex o s1 r3 f8, rg o s1 r3 f8]
/-- Twelve bits as they are. -/
def im12 (p flag v : Nat) (r : Tm) : Tmpl := ⟨1, flag, false, ors [N p, sl v 11 1 10, r], ors [N 0, sl v 8 3 12, d8, sl v 0 8 0]⟩
def shI (t : Nat) : Tmpl := ⟨1, 0, false, ors [N 0xEA4F, S], ors [N (16 * t), sl 5 2 3 12, d8, sl 5 0 2 6, sl 3 0 4 0]⟩
def shR (t : Nat) : Tmpl := ⟨2, 0, false, ors [N (0xFA00 + 32 * t), S, r3], ors [N 0xF000, d8, sl 4 0 4 0]⟩
def ld (k : Nat) : List Tmpl := [⟨1, 0, false, ors [N (0xF880 + 16 * k), r3], ors [N 0, sl 2 0 4 12, sl 5 0 12 0]⟩, ⟨2, 0, false, ors [N (0xF800 + 16 * k), r3], ors [N 0, sl 2 0 4 12, sl 4 0 4 0]⟩]
def mlt (p q : Nat) : Tmpl := ⟨2, 0, false, ors [N p, r3], ors [N q, d8, sl 4 0 4 0]⟩
def lst (p : Nat) (r : List Tm) : Tmpl := ⟨0, 0, false, ors (N p :: r), sl 7 0 16 0⟩
def b4 (q flag : Nat) : Tmpl := ⟨1, flag, false, ors [N 0xF000, sl 5 24 1 10, sl 5 12 10 0], ors [N q, shl (xor (xor (sl 5 23 1 0) (sl 5 24 1 0)) (N 1)) 13, shl (xor (xor (sl 5 22 1 0) (sl 5 24 1 0)) (N 1)) 11, sl 5 1 11 0]⟩
def b3 : Tmpl := ⟨1, 2, false, ors [N 0xF000, sl 5 20 1 10, sl 1 0 4 6, sl 5 12 6 0], ors [N 0x8000, sl 5 18 1 13, sl 5 19 1 11, sl 5 1 11 0]⟩

def widT (k : Nat) : List Tmpl :=
  match k with
  | 1 => both 0
  | 2 => both 4
  | 3 => both 2
  | 4 => both 1
  | 5 => im12 0xF200 0 5 r3 :: both 8
  | 6 => both 10
  | 7 => im12 0xF2A0 0 5 r3 :: both 13
  | 8 => both 11
  | 9 => both 14
  | 10 => [ex 2 S f0 d8, rg 2 S f0 d8]
  | 11 => [ex 3 S f0 d8, rg 3 S f0 d8]
  | 12 => cmps 13
  | 13 => cmps 8
  | 14 => cmps 0
  | 15 => cmps 4
  | 16 => [shI 0, shR 0]
  | 17 => [shI 1, shR 1]
  | 18 => [shI 2, shR 2]
  | 19 => [shI 3, shR 3]
  | 20 => [mlt 0xFB00 0xF000]
  | 21 => [mlt 0xFBB0 0xF0F0]
  | 22 => [mlt 0xFB90 0xF0F0]
  | 23 => [⟨1, 0, false, ors [N 0xF240, sl 5 11 1 10, sl 5 12 4 0], ors [N 0, sl 5 8 3 12, d8, sl 5 0 8 0]⟩]
  | 24 => [⟨1, 0, false, ors [N 0xF2C0, sl 5 11 1 10, sl 5 12 4 0], ors [N 0, sl 5 8 3 12, d8, sl 5 0 8 0]⟩]
  | 25 => ld 5
  | 26 => ld 1
  | 27 => ld 3
  | 28 => ld 4
  | 29 => ld 0
  | 30 => ld 2
  | 31 => [lst 0xE8B0 [r3]]
  | 32 => [lst 0xE8A0 [r3]]
  | 33 => [lst 0xE92D []]
  | 34 => [lst 0xE8BD []]
  | 35 => [b3, b4 0x9000 1]
  | 36 => [b4 0xD000 0]
  | 40 => [⟨1, 4, false, N 0xF8DF, ors [N 0, sl 2 0 4 12, sl 5 0 12 0]⟩, ⟨1, 3, false, N 0xF85F, ors [N 0, sl 2 0 4 12, sl 10 0 12 0]⟩]
  | 41 => [im12 0xF200 4 5 f0, im12 0xF2A0 3 10 f0]
  | 43 => [⟨0, 0, false, N 0xF3AF, N 0x8000⟩]
  | 45 => [⟨2, 0, false, ors [N 0xE8D0, r3], ors [N 0xF000, sl 4 0 4 0]⟩]
  | _ => []

/-- The fact that such halfwords want, as a term. -/
def flagT (f : Nat) : Tm :=
  match f with
  | 1 => .op2 .eq (.var 1) (N 14)
  | 2 => .op1 .not (.op2 .eq (.var 1) (N 14))
  | 3 => .op2 .band (.op2 .eq (.var 5) (.op2 (.sub .i64) (N 0) (.var 10))) (.op2 .band (.op2 .lt (N 0) (.var 10)) (.op2 .lt (.var 10) (N 4096)))
  | 4 => .op1 .not (.op2 .lt (.var 5) (N 0))
  | 5 => .op2 .band (.op2 .le (N 0) (.var 5)) (.op2 .lt (.var 5) (N 8))
  | 6 => .op2 .eq (.var 3) (.var 2)
  | _ => .bit true

/-- Two facts that exclude each other. -/
def apart (f g : Nat) : Bool := match f, g with | 1, 2 => true | 2, 1 => true | 3, 4 => true | 4, 3 => true | _, _ => false

/-- The places, of 32, at which two such are known to differ. -/
def diffs (s t : Tmpl) : List Nat :=
  let x := kw 30 s.a
  let y := kw 30 t.a
  let z := kw 30 s.b
  let u := kw 30 t.b
  (List.range 32).filter fun i => match Nat.blt i 16 with
    | true => !x.1.testBit i && (!y.1.testBit i && Bool.xor (x.2.testBit i) (y.2.testBit i))
    | false => !z.1.testBit (i - 16) && (!u.1.testBit (i - 16) && Bool.xor (z.2.testBit (i - 16)) (u.2.testBit (i - 16)))

/-- The two that want a proof of their own. -/
def own2 (s t : Tmpl) : Bool := (decide (s = sub3) && decide (t = sub8)) || (decide (s = sub8) && decide (t = sub3))
def far (s t : Tmpl) : Bool := ((!(decide (s.mode = t.mode)) || apart s.flag t.flag) || Nat.ble 2 (diffs s t).length) || own2 s t

def farL (l : List Tmpl) : Bool := (List.range l.length).all fun i => (List.range l.length).all fun j => Nat.beq i j || (match l[i]?, l[j]? with | some s, some t => far s t | _, _ => true)
set_option maxRecDepth 100000 in
theorem farN : (List.range 46).all (fun k => farL (narT k)) = true := by decide +kernel
set_option maxRecDepth 100000 in
theorem farW : (List.range 46).all (fun k => farL (widT k)) = true := by decide +kernel
end Rd
end
end Go.Sx

/- One bit turned: halfwords of an instruction do not become others of the same instruction. -/
namespace Go.Sx
noncomputable section
namespace Rd

/-- The variables of halfwords: the fields; the number of twelve bits; the number without its sign. -/
def valsT (xs : List Sc) (n9 : Int) (t : Tmpl) : List Sc := xs ++ [.int (match t.x with | true => n9 | false => 0), .int (match Nat.beq t.flag 3 with | true => -(xs.getD 5 (.int 0)).asInt | false => 0)]
def envT (F : Nat → List Sc → Sc) (xs : List Sc) (n9 : Int) (t : Tmpl) : Env := ⟨fun i => (valsT xs n9 t).getD i (.int 0), F, fun _ => undef, Abs.no⟩

/-- Halfwords are those of an instruction, by one of a list of forms. -/
structure RdBy (F : Nat → List Sc → Sc) (xs : List Sc) (h0 h1 : Int) (t : Tmpl) (n9 : Int) : Prop where
  mode : (xs.getD 6 (.int 0)).asInt = t.mode
  flag : ((flagT t.flag).den (envT F xs n9 t)).asBool = true
  num : t.x = true → (xs.getD 5 (.int 0)).asInt = (F 920 [.int n9]).asInt ∧ (F 921 [.int n9]).asBool = true
  a : h0 = (t.a.den (envT F xs n9 t)).asInt
  b : h1 = (t.b.den (envT F xs n9 t)).asInt
def Reads (F : Nat → List Sc → Sc) (tb : Nat → List Tmpl) (xs : List Sc) (h0 h1 : Int) : Prop :=
  ∃ t ∈ tb (xs.getD 0 (.int 0)).asInt.toNat, ∃ n9 : Int, RdBy F xs h0 h1 t n9

def bit32 (h0 h1 : Int) (i : Nat) : Bool := match Nat.blt i 16 with | true => bitI h0 i | false => bitI h1 (i - 16)

theorem diff_of {ρ ρ' : Env} {s t : Tmpl} {i : Nat} (hi : i ∈ diffs s t) : i < 32 ∧ bit32 (s.a.den ρ).asInt (s.b.den ρ).asInt i ≠ bit32 (t.a.den ρ').asInt (t.b.den ρ').asInt i := by
  unfold diffs at hi
  simp only [List.mem_filter, List.mem_range] at hi
  obtain ⟨h32, hi⟩ := hi
  refine ⟨h32, ?_⟩
  unfold bit32
  split at hi
  · rename_i h16
    have h16 : i < 16 := by simpa [Nat.blt_eq] using h16
    simp only [Bool.and_eq_true, Bool.not_eq_true'] at hi
    obtain ⟨h1, h2, h3⟩ := hi
    have k1 := (kw_ok ρ 30 s.a).bits i (by omega) h1
    have k2 := (kw_ok ρ' 30 t.a).bits i (by omega) h2
    rw [k1, k2]
    intro e
    rw [e] at h3
    simp at h3
  · simp only [Bool.and_eq_true, Bool.not_eq_true'] at hi
    obtain ⟨h1, h2, h3⟩ := hi
    have k1 := (kw_ok ρ 30 s.b).bits (i - 16) (by omega) h1
    have k2 := (kw_ok ρ' 30 t.b).bits (i - 16) (by omega) h2
    rw [k1, k2]
    intro e
    rw [e] at h3
    simp at h3

theorem diffs_nodup (s t : Tmpl) : (diffs s t).Nodup := List.Pairwise.filter _ List.nodup_range

/-- Of two places one is another one than this. -/
theorem other_of {l : List Nat} (hn : l.Nodup) (h : 2 ≤ l.length) (p : Nat) : ∃ i ∈ l, i ≠ p := by
  match l, hn, h with
  | a :: b :: r, hn, _ =>
    by_cases e : a = p
    · refine ⟨b, by simp, fun e2 => ?_⟩
      rw [List.nodup_cons] at hn
      exact hn.1 (by rw [e, ← e2]; simp)
    · exact ⟨a, by simp, e⟩

theorem flag_apart {F : Nat → List Sc → Sc} {xs : List Sc} {n m : Int} {s t : Tmpl} (hs : ((flagT s.flag).den (envT F xs n s)).asBool = true) (ht : ((flagT t.flag).den (envT F xs m t)).asBool = true) (hl : xs.length = 9) (h : apart s.flag t.flag = true) : False := by
  have v : ∀ (q : Tmpl) (k : Int) (i : Nat), i < 9 → (envT F xs k q).v i = xs.getD i (.int 0) := fun q k i hi => by
    show (valsT xs k q).getD i (.int 0) = _
    unfold valsT
    rw [List.getD_eq_getElem?_getD, List.getElem?_append_left (by omega), ← List.getD_eq_getElem?_getD]
  have v10 : ∀ (q : Tmpl) (k : Int), q.flag = 3 → ((envT F xs k q).v 10).asInt = -(xs.getD 5 (.int 0)).asInt := fun q k hq => by
    show ((valsT xs k q).getD 10 (.int 0)).asInt = _
    unfold valsT
    rw [List.getD_eq_getElem?_getD, List.getElem?_append_right (by omega), hl, hq]
    rfl
  unfold apart at h
  split at h
  · rename_i e1 e2
    rw [e1] at hs; rw [e2] at ht
    simp only [flagT, Tm.den, Op1.ev, Op2.ev, v _ _ 1 (by omega), N] at hs ht
    simp_all
  · rename_i e1 e2
    rw [e1] at hs; rw [e2] at ht
    simp only [flagT, Tm.den, Op1.ev, Op2.ev, v _ _ 1 (by omega), N] at hs ht
    simp_all
  · rename_i e1 e2
    rw [e1] at hs; rw [e2] at ht
    have w := v10 s n e1
    simp only [flagT, Tm.den, Op1.ev, Op2.ev, v _ _ 5 (by omega), N, w] at hs ht
    simp at hs ht
    omega
  · rename_i e1 e2
    rw [e1] at hs; rw [e2] at ht
    have w := v10 t m e2
    simp only [flagT, Tm.den, Op1.ev, Op2.ev, v _ _ 5 (by omega), N, w] at hs ht
    simp at hs ht
    omega
  · cases h

/-- The two forms of a number of three bits taken away: never one turned bit apart. -/
def h3 (v m : Nat) : Nat := Nat.lor 0x1E00 (Nat.lor (m <<< 6) (Nat.lor (v <<< 3) v))
def h8 (v m : Nat) : Nat := Nat.lor 0x3800 (Nat.lor (v <<< 8) m)
theorem apart38 : ((List.range 8).all fun v => (List.range 8).all fun m => Nat.ble 2 ((List.range 16).filter fun i => Bool.xor ((h3 v m).testBit i) ((h8 v m).testBit i)).length) = true := by decide +kernel

def ρ0 : Env := ⟨fun _ => .int 0, fun _ _ => .int 0, fun _ => undef, Abs.no⟩
def E3 (v w m : Int) : Int := ((ors [N 0x1E00, shl (.num m) 6, shl (.num w) 3, shl (.num v) 0]).den ρ0).asInt
def E8 (v m : Int) : Int := ((ors [N 0x3800, shl (.num v) 8, shl (.num m) 0]).den ρ0).asInt
theorem e38 : ((List.range 8).all fun v => (List.range 8).all fun m => decide (E3 v v m = (h3 v m : Nat)) && decide (E8 v m = (h8 v m : Nat))) = true := by decide +kernel
theorem low3 (n : Int) : ∃ v : Nat, v < 8 ∧ bits .and .i64 n 7 = (v : Int) := by
  have h := bnd_ok ⟨fun _ => .int n, fun _ _ => .int 0, fun _ => undef, Abs.no⟩ (t := .op2 (.and .i64) (.var 0) (.num 7)) (x := (0, 7)) (by decide +kernel)
  have h0 : 0 ≤ bits .and .i64 n 7 := h.1
  have h1 : bits .and .i64 n 7 ≤ 7 := h.2
  obtain ⟨v, hv⟩ := Int.eq_ofNat_of_zero_le h0
  exact ⟨v, by omega, hv⟩
theorem low8 {n : Int} (h0 : 0 ≤ n) (h1 : n < 8) : bits .and .i64 n 7 = n ∧ bits .and .i64 n 255 = n := by
  obtain ⟨m, rfl⟩ := Int.eq_ofNat_of_zero_le h0
  match m, h1 with
  | 0, _ => decide
  | 1, _ => decide
  | 2, _ => decide
  | 3, _ => decide
  | 4, _ => decide
  | 5, _ => decide
  | 6, _ => decide
  | 7, _ => decide
  | n + 8, h => omega

theorem own_apart3 {F : Nat → List Sc → Sc} {xs : List Sc} {n m a0 a1 b0 b1 : Int} (hl : xs.length = 9) (rs : RdBy F xs a0 a1 sub3 n) (rt : RdBy F xs b0 b1 sub8 m) (p : Nat) : ∃ i, i < 16 ∧ i ≠ p ∧ bitI a0 i ≠ bitI b0 i := by
  have v : ∀ (q : Tmpl) (k : Int) (i : Nat), i < 9 → (envT F xs k q).v i = xs.getD i (.int 0) := fun q k i hi => by
    show (valsT xs k q).getD i (.int 0) = _
    unfold valsT
    rw [List.getD_eq_getElem?_getD, List.getElem?_append_left (by omega), ← List.getD_eq_getElem?_getD]
  have hs := rs.flag
  have ht := rt.flag
  simp only [sub3, sub8, n1f, flagT, Tm.den, Op2.ev, N, v _ _ 5 (by omega), v _ _ 3 (by omega), v _ _ 2 (by omega), Sc.asBool_bool, Sc.asInt_int, Bool.and_eq_true, beq_iff_eq, decide_eq_true_eq] at hs ht
  obtain ⟨s0, s1⟩ := hs
  have s0 : 0 ≤ (xs.getD 5 (.int 0)).asInt := s0
  have s1 : (xs.getD 5 (.int 0)).asInt < 8 := s1
  obtain ⟨w, hw, hwe⟩ := low3 (xs.getD 2 (.int 0)).asInt
  obtain ⟨l7, l255⟩ := low8 s0 s1
  obtain ⟨k, hk⟩ := Int.eq_ofNat_of_zero_le s0
  have A : a0 = E3 (bits .and .i64 (xs.getD 2 (.int 0)).asInt 7) (bits .and .i64 (xs.getD 3 (.int 0)).asInt 7) (bits .and .i64 (xs.getD 5 (.int 0)).asInt 7) := by
    rw [rs.a, ← v sub3 n 2 (by omega), ← v sub3 n 3 (by omega), ← v sub3 n 5 (by omega)]
    rfl
  have B : b0 = E8 (bits .and .i64 (xs.getD 2 (.int 0)).asInt 7) (bits .and .i64 (xs.getD 5 (.int 0)).asInt 255) := by
    rw [rt.a, ← v sub8 m 2 (by omega), ← v sub8 m 5 (by omega)]
    rfl
  rw [ht, hwe, l7, hk] at A
  rw [hwe, l255, hk] at B
  have hk8 : k < 8 := by omega
  have e := List.all_eq_true.1 (List.all_eq_true.1 e38 w (List.mem_range.2 hw)) k (List.mem_range.2 hk8)
  simp only [Bool.and_eq_true, decide_eq_true_eq] at e
  rw [e.1] at A
  rw [e.2] at B
  have d := List.all_eq_true.1 (List.all_eq_true.1 apart38 w (List.mem_range.2 hw)) k (List.mem_range.2 hk8)
  obtain ⟨i, hi, hip⟩ := other_of (List.Pairwise.filter _ List.nodup_range) (Nat.le_of_ble_eq_true d) p
  simp only [List.mem_filter, List.mem_range] at hi
  refine ⟨i, hi.1, hip, ?_⟩
  rw [A, B, bitI_nat, bitI_nat]
  intro e
  rw [e] at hi
  simp at hi

theorem own_apart {F : Nat → List Sc → Sc} {xs : List Sc} {s t : Tmpl} {n m a0 a1 b0 b1 : Int} (hl : xs.length = 9) (h : own2 s t = true) (rs : RdBy F xs a0 a1 s n) (rt : RdBy F xs b0 b1 t m) (p : Nat) : ∃ i, i < 32 ∧ i ≠ p ∧ bit32 a0 a1 i ≠ bit32 b0 b1 i := by
  unfold own2 at h
  simp only [Bool.or_eq_true, Bool.and_eq_true, decide_eq_true_eq] at h
  rcases h with ⟨rfl, rfl⟩ | ⟨rfl, rfl⟩
  · obtain ⟨i, h1, h2, h3⟩ := own_apart3 hl rs rt p
    refine ⟨i, by omega, h2, ?_⟩
    unfold bit32
    rw [show Nat.blt i 16 = true by simp [Nat.blt_eq]; omega]
    exact h3
  · obtain ⟨i, h1, h2, h3⟩ := own_apart3 hl rt rs p
    refine ⟨i, by omega, h2, ?_⟩
    unfold bit32
    rw [show Nat.blt i 16 = true by simp [Nat.blt_eq]; omega]
    exact fun e => h3 e.symm

theorem flip_no {F : Nat → List Sc → Sc} {tb : Nat → List Tmpl} {xs : List Sc} {h0 h1 g0 g1 : Int} {p : Nat} (hl : xs.length = 9)
    (hinj : ∀ n m : Int, (F 921 [.int n]).asBool = true → (F 921 [.int m]).asBool = true → (F 920 [.int n]).asInt = (F 920 [.int m]).asInt → n = m)
    (hf : ∀ k, farL (tb k) = true)
    (h : Reads F tb xs h0 h1) (g : Reads F tb xs g0 g1) (hp : bit32 h0 h1 p ≠ bit32 g0 g1 p) (ho : ∀ i, i < 32 → i ≠ p → bit32 h0 h1 i = bit32 g0 g1 i) : False := by
  obtain ⟨s, hs, n, rs⟩ := h
  obtain ⟨t, ht, m, rt⟩ := g
  obtain ⟨i, hi, hsi⟩ := List.getElem_of_mem hs
  obtain ⟨j, hj, htj⟩ := List.getElem_of_mem ht
  by_cases e : i = j
  · subst e
    rw [hsi] at htj
    subst htj
    have he : envT F xs n s = envT F xs m s := by
      cases hx : s.x
      · unfold envT valsT
        rw [hx]
      · have := hinj n m (rs.num hx).2 (rt.num hx).2 ((rs.num hx).1.symm.trans (rt.num hx).1)
        rw [this]
    apply hp
    rw [rs.a, rs.b, rt.a, rt.b, he]
  · have hF := hf (xs.getD 0 (.int 0)).asInt.toNat
    unfold farL at hF
    have h1 := List.all_eq_true.1 hF i (List.mem_range.2 hi)
    have h2 := List.all_eq_true.1 h1 j (List.mem_range.2 hj)
    have hne : Nat.beq i j = false := by
      cases hb : Nat.beq i j
      · rfl
      · exact absurd (Nat.eq_of_beq_eq_true hb) e
    rw [hne, List.getElem?_eq_getElem hi, List.getElem?_eq_getElem hj, hsi, htj, Bool.false_or] at h2
    have h2 : far s t = true := h2
    unfold far at h2
    simp only [Bool.or_eq_true] at h2
    rcases h2 with ((hm | ha) | hd) | hw
    · simp at hm
      exact hm (rs.mode.symm.trans rt.mode)
    · exact flag_apart rs.flag rt.flag hl ha
    · obtain ⟨k, hk, hkp⟩ := other_of (diffs_nodup s t) (Nat.le_of_ble_eq_true hd) p
      obtain ⟨h32, hb⟩ := diff_of (ρ := envT F xs n s) (ρ' := envT F xs m t) hk
      rw [← rs.a, ← rs.b, ← rt.a, ← rt.b] at hb
      exact hb (ho k h32 hkp)
    · obtain ⟨k, h32, hkp, hb⟩ := own_apart hl hw rs rt p
      exact hb (ho k h32 hkp)
end Rd
end
end Go.Sx
