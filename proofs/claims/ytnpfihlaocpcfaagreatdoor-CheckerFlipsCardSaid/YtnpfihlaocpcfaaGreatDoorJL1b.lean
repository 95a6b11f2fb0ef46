/- For the seat: texts joined: RdD, Aft, KrD, KrX, KrC, RrD, Post. -/
import Derived.Test.YtnpfihlaocpcfaaGreatDoorJL1a
import Derived.Test.YtnpfihlaocpcfaaGreatDoorSxFlp
import Derived.Lib.Hide
import Derived.Test.YtnpfihlaocpcfaaGreatDoorJL0a
import Derived.Test.YtnpfihlaocpcfaaGreatDoorTie
import Derived.Test.YtnpfihlaocpcfaaGreatDoorCards
import Derived.Carry
import Derived.ProofKit
import Derived.OpenShut
import Derived.Deep.Slices
import Derived.ChangeVars
import Derived.JoinedOf
import Derived.SevenTiedAt
/- For the seat: halfwords that are read as an instruction are those of one of its forms. -/
namespace Go.Proofs.YtnpfihlaocpcfaaGreatDoor
open Go.Sx Go.ChangeShapes Go.WideShapes Go.RowKit Go.Joins Go.Deep

namespace rd
/-- The twelve bits that tell a number. -/
def num12 : Tm → Tm
  | .app 920 (.cons n .nil) => n
  | .op1 _ (.app 920 (.cons n .nil)) => n
  | _ => .num 0
def negT : Tm → Tm
  | .op2 (.sub .i64) (.num 0) t => t
  | _ => .num 0
def cv (t : Tm) : Tm := mk1 (.conv .i64) t
/-- A number as it is, where its form tells that it is one. -/
def cvI (t : Tm) : Tm := match t with
  | .op2 (.or .i64) a b => .op2 (.or .i64) a b
  | t => mk1 (.conv .i64) t
/-- What stands for a form's variables. -/
def vars (fs : List Tm) (b : Tm) (t : Tmpl) : List Tm :=
  fs.map cv ++ [mk1 .not (mk1 .not b), match t.x with | true => cvI (num12 (fs.getD 5 .nil)) | false => .num 0, match Nat.beq t.flag 3 with | true => cv (negT (fs.getD 5 .nil)) | false => .num 0]
def numF (pc f5 : Tm) (l : List Tm) (t : Tmpl) : Tm :=
  match t.x with
  | true => .op2 .band (mk2 .eq f5 (.op1 (.conv .i64) (.app 920 (.cons (l.getD 9 .nil) .nil)))) (match decideT pc (.app 921 (.cons (l.getD 9 .nil) .nil)) with | some true => .bit true | _ => .bit false)
  | false => .bit true
/-- The halfwords come from this form. -/
def by' (pc : Tm) (fs : List Tm) (b h0 h1 : Tm) (t : Tmpl) : Tm :=
  let l := vars fs b t
  allT [mk2 .eq (l.getD 6 .nil) (.num t.mode), (Rd.flagT t.flag).inst l, numF pc (fs.getD 5 .nil) l t, mk2 .eq h0 (t.a.inst l), mk2 .eq h1 (t.b.inst l)]
def opOf : Tm → Option Nat
  | .num (.ofNat k) => some k
  | _ => none
/-- Do some bits speak against each other? -/
def clash (x y : Nat × Nat) : Bool := !(Nat.beq (Nat.land (Nat.xor x.2 y.2) (Nat.xor 65535 (Nat.land 65535 (Nat.lor x.1 y.1)))) 0)
def cands (tb : Nat → List Tmpl) (fs : List Tm) (h0 h1 : Tm) : List Tmpl :=
  let x := kw 12 h0
  let y := kw 12 h1
  (match opOf (fs.getD 0 .nil) with | some k => tb k | none => []).filter fun t => match decide (fs.getD 6 .nil = Tm.num t.mode) with
    | true => match clash x (kw 12 t.a) with | true => false | false => !(clash y (kw 12 t.b))
    | false => false
def leaf (tb : Nat → List Tmpl) (h0 h1 : Tm) (x : Res) : Tree Res :=
  match insOf x.v with
  | some (.agg l, o) => match fldsOf l with
    | some (fs, b) => match decide (o = .bit false) with
      | true => .leaf trueRes
      | false => .assert (.op2 .bor (mk1 .not o) (anyT ((cands tb fs h0 h1).map (by' x.pc fs b h0 h1)))) (.leaf trueRes)
    | none => .fail "no fields"
  | _ => .fail "no instruction"
noncomputable def tree (tb : Nat → List Tmpl) (cx : Cx) (S : Specs) (fuel : Nat) (D : FuncId) (pat : List SVal) (h1 : Tm) (c : Cas) : Tree Res :=
  .ite c.cond (.assert (allT (condS c.sub ++ c.pc)) ((callT cx S (run cx S fuel) D (pat.map (subV c.sub)) [] (c.pc.foldr mkAnd (.bit true))).bind (leaf tb (findS false c.sub 0) (match decide (h1 = .var 1) with | true => findS false c.sub 1 | false => h1)))) (.leaf trueRes)
end rd

/-- A number of sixteen bits. -/
def Hw (a : Int) : Prop := 0 ≤ a ∧ a < 65536
set_option maxRecDepth 100000 in
theorem Hw.has {a : Int} (h : Hw a) : kHas .i64 a := by
  have h1 : 0 ≤ a := h.1
  have h2 : a < 65536 := h.2
  show -2 ^ 63 ≤ a ∧ a < 2 ^ 63
  omega

/-- The signs with their meanings: whether an instruction may be; whether twelve bits tell a number. -/
def sgV : Sg := { defs := fun g => match Nat.beq g 901 with | true => some Chk.chk | false => match Nat.beq g 921 with | true => some ex.valT | false => none, ufs := [], pop := 900 }
set_option maxRecDepth 100000 in
theorem val_signs : ex.valT.signs (fun _ => false) = true := by decide +kernel
set_option maxRecDepth 100000 in
theorem sgV_ok {ρ : Env} (hF : Signs ρ.f) (h921 : ρ.f 921 = F1 921) : sgV.Ok ρ := by
  have so := sg_ok' hF
  refine ⟨?_, so.ufs, so.pop⟩
  intro g t h ss
  simp only [sgV] at h
  split at h
  · rename_i hg
    exact so.defs g t (by simp only [sg]; rw [hg]; exact h) ss
  · split at h
    · rename_i hg
      have := Nat.eq_of_beq_eq_true hg
      subst this
      simp only [Option.some.injEq] at h; subst h
      rw [h921]
      show Sc.bool (ex.valT.den (envOf F ss)).asBool = _
      have e := den_congr (P := fun _ => false) (η := envOf F ss) (η' := ⟨fun i => ss.getD i (.int 0), ρ.f, ρ.val, ρ.ab⟩) rfl (fun g hg => by cases hg) ex.valT val_signs
      rw [← e]
      rfl
    · cases h

/-- Without the meaning of 'may be'. -/
def sgW : Sg := { defs := fun _ => none, ufs := [], pop := 900 }
set_option maxRecDepth 100000 in
theorem sgW_ok {ρ : Env} (hF : Signs ρ.f) (h921 : ρ.f 921 = F1 921) : sgW.Ok ρ := by
  have so := sgV_ok hF h921
  refine ⟨?_, so.ufs, so.pop⟩
  intro g t h
  cases h
/-- The one, or the other. -/
def px2 (t : Tree Res) (e : Kn) : Bool := match pxBoth sgW t e with
  | true => true
  | false => pxBoth sgV t e
set_option maxRecDepth 100000 in
theorem px2_ok {ρ : Env} (hF : Signs ρ.f) (h921 : ρ.f 921 = F1 921) {t : Tree Res} {e : Kn} (h : px2 t e = true) : ∃ sg : Sg, sg.Ok ρ ∧ pxBoth sg t e = true := by
  unfold px2 at h
  split at h
  · rename_i h1
    exact ⟨sgW, sgW_ok hF h921, h1⟩
  · exact ⟨sgV, sgV_ok hF h921, h⟩

namespace sho
def knB : Kn := (kn.tell (.le 0 65535) true).tell (.le 0 (-1)) false
noncomputable def atP (j : Nat) : Bool := px2 (rd.tree Rd.narT cxs' widS 3000 37 pat (.num 0) (nth j)) knB
set_option maxRecDepth 100000 in
theorem covB : pxT sgV (anyT (cases.map Cas.cond)) knB (fun _ => true) = true := by kernel_rfl
end sho
namespace tal
def knB : Kn := (((kn.tell (.le 0 65535) true).tell (.le 0 (-1)) false).tell (.le 1 65535) true).tell (.le 1 (-1)) false
/-- The shifts by a number, by their kinds. -/
def shiftL (h : Nat) : List Cas := Cas.mul [Cb.bits 0 0xFFF0 h] ([Cb.bits 1 0x8000 0x8000] ++ (List.range 4).map (fun j => Cb.bits 1 0xC030 (0x4000 + 16 * j)) ++ (List.range 4).map (fun j => Cb.bits 1 0xE030 (0x2000 + 16 * j)) ++ (List.range 4).map (fun j => Cb.bits 1 0xF030 (0x1000 + 16 * j)) ++ (List.range 4).map (fun j => Cb.bits 1 0xF0B0 (0x80 + 16 * j)) ++ (List.range 8).map (fun j => Cb.bits 1 0xF0F0 (16 * j)))
/-- The cases, those parted in which the operation is reckoned. -/
def casesP : List Cas := cases.take 72 ++ shiftL 0xEA40 ++ shiftL 0xEA50 ++ (cases.drop 90).take 323 ++ (List.range 4).map (fun i => Cb.bits 0 0xFF60 (0xFA00 + 32 * i)) ++ cases.drop 414
def nthP (j : Nat) : Cas := casesP.getD j ⟨[], [], []⟩
set_option maxRecDepth 100000 in
theorem covP : pxT sgV (anyT (casesP.map Cas.cond)) knB (fun _ => true) = true := by kernel_rfl
set_option maxRecDepth 100000 in
theorem lenP : casesP.length = 454 := by kernel_rfl
noncomputable def atP (j : Nat) : Bool := px2 (rd.tree Rd.widT cxs' widS 3000 38 pat3 (.var 1) (nthP j)) knB
end tal

set_option maxRecDepth 100000 in
theorem fldsOf_all {ρ : Env} (V : VarsOk ρ) {v : SVal} {fs : List Tm} {b : Tm} (h : fldsOf v = some (fs, b)) :
    ∃ x : Fields, x.Ok ∧ (∀ ι, (SVal.agg v).conc ρ ι = x.val) ∧ fs.length = 8 ∧ (∀ a ∈ fs, kHas .i64 (a.den ρ).asInt) ∧ x.scs = (fs.map fun a => Sc.int (a.den ρ).asInt) ++ [.bool (b.den ρ).asBool] := by
  unfold fldsOf at h
  split at h
  · rename_i a0 a1 a2 a3 a4 a5 a6 a7 b'
    split at h
    · rename_i hk
      simp only [Option.some.injEq, Prod.mk.injEq] at h
      obtain ⟨rfl, rfl⟩ := h
      simp only [Bool.and_eq_true] at hk
      obtain ⟨k0, k1, k2, k3, k4, k5, k6, k7⟩ := hk
      refine ⟨⟨(a0.den ρ).asInt, (a1.den ρ).asInt, (a2.den ρ).asInt, (a3.den ρ).asInt, (a4.den ρ).asInt, (a5.den ρ).asInt, (a6.den ρ).asInt, (a7.den ρ).asInt, (b'.den ρ).asBool⟩,
        ⟨inK_ok V .i64 a0 k0, inK_ok V .i64 a1 k1, inK_ok V .i64 a2 k2, inK_ok V .i64 a3 k3, inK_ok V .i64 a4 k4, inK_ok V .i64 a5 k5, inK_ok V .i64 a6 k6, inK_ok V .i64 a7 k7⟩, fun _ => rfl, rfl, ?_, rfl⟩
      intro a ha
      simp only [List.mem_cons, List.not_mem_nil, or_false] at ha
      rcases ha with rfl | rfl | rfl | rfl | rfl | rfl | rfl | rfl
      · exact inK_ok V .i64 _ k0
      · exact inK_ok V .i64 _ k1
      · exact inK_ok V .i64 _ k2
      · exact inK_ok V .i64 _ k3
      · exact inK_ok V .i64 _ k4
      · exact inK_ok V .i64 _ k5
      · exact inK_ok V .i64 _ k6
      · exact inK_ok V .i64 _ k7
    · cases h
  · cases h

set_option maxRecDepth 100000 in
theorem wrap_id {n : Int} (h : kHas .i64 n) : IntKind.i64.wrap n = n := IntWalk.i64_in n (by have : -2 ^ 63 ≤ n ∧ n < 2 ^ 63 := h; omega)

set_option maxRecDepth 100000 in
/-- What a form's variables stand for. -/
theorem rd_by {ρ : Env} (V : VarsOk ρ) (hv : ∀ i, 11 ≤ i → ρ.v i = .int 0) (hvl : ρ.val = fun _ => undef) (hab : ρ.ab = Abs.no) {pc : Tm} (hpc : (pc.den ρ).asBool = true) {fs : List Tm} {b h0 h1 : Tm} {t : Tmpl} (hl : fs.length = 8) (hk : ∀ a ∈ fs, kHas .i64 (a.den ρ).asInt)
    (h : ((rd.by' pc fs b h0 h1 t).den ρ).asBool = true) : ∃ n9 : Int, Rd.RdBy ρ.f ((fs.map fun a => Sc.int (a.den ρ).asInt) ++ [.bool (b.den ρ).asBool]) (h0.den ρ).asInt (h1.den ρ).asInt t n9 := by
  match fs, hl with
  | [a0, a1, a2, a3, a4, a5, a6, a7], _ =>
    have k : ∀ a ∈ [a0, a1, a2, a3, a4, a5, a6, a7], (rd.cv a).den ρ = .int (a.den ρ).asInt := fun a ha => by
      unfold rd.cv
      rw [mk1_den]
      show Sc.int (IntKind.i64.wrap (a.den ρ).asInt) = _
      rw [wrap_id (hk a ha)]
    have hall := allT_den ρ _ h
    obtain ⟨l, hlv⟩ : ∃ l, rd.vars [a0, a1, a2, a3, a4, a5, a6, a7] b t = l := ⟨_, rfl⟩
    unfold rd.by' at hall
    simp only [hlv] at hall
    obtain ⟨ρ1, h1e⟩ : ∃ ρ1 : Env, ρ1 = ⟨fun i => (l.getD i (.var i)).den ρ, ρ.f, ρ.val, ρ.ab⟩ := ⟨_, rfl⟩
    have hin : ∀ u : Tm, (u.inst l).den ρ = u.den ρ1 := fun u => inst_den (by rw [h1e]) (fun i => by rw [h1e]) u
    have hmode := hall _ (List.mem_cons_self ..)
    have hflag := hall _ (List.mem_cons_of_mem _ (List.mem_cons_self ..))
    have hnum := hall _ (List.mem_cons_of_mem _ (List.mem_cons_of_mem _ (List.mem_cons_self ..)))
    have ha := hall _ (List.mem_cons_of_mem _ (List.mem_cons_of_mem _ (List.mem_cons_of_mem _ (List.mem_cons_self ..))))
    have hb := hall _ (List.mem_cons_of_mem _ (List.mem_cons_of_mem _ (List.mem_cons_of_mem _ (List.mem_cons_of_mem _ (List.mem_cons_self ..)))))
    rw [mk2_den, hin] at ha hb
    rw [mk2_den] at hmode
    rw [hin] at hflag
    have d : ∀ i, i < 8 → ∃ a, (l.getD i (.var i)).den ρ = .int a ∧ ([a0, a1, a2, a3, a4, a5, a6, a7].getD i .nil).den ρ = ([a0, a1, a2, a3, a4, a5, a6, a7].getD i .nil).den ρ ∧ a = (([a0, a1, a2, a3, a4, a5, a6, a7].getD i .nil).den ρ).asInt := fun i hi => by
      subst hlv
      match i, hi with
      | 0, _ => exact ⟨_, k a0 (by simp), rfl, rfl⟩
      | 1, _ => exact ⟨_, k a1 (by simp), rfl, rfl⟩
      | 2, _ => exact ⟨_, k a2 (by simp), rfl, rfl⟩
      | 3, _ => exact ⟨_, k a3 (by simp), rfl, rfl⟩
      | 4, _ => exact ⟨_, k a4 (by simp), rfl, rfl⟩
      | 5, _ => exact ⟨_, k a5 (by simp), rfl, rfl⟩
      | 6, _ => exact ⟨_, k a6 (by simp), rfl, rfl⟩
      | 7, _ => exact ⟨_, k a7 (by simp), rfl, rfl⟩
    have e8 : (l.getD 8 (.var 8)).den ρ = .bool (b.den ρ).asBool := by
      subst hlv
      show (mk1 .not (mk1 .not b)).den ρ = _
      rw [mk1_den, mk1_den]
      show Sc.bool (!(!(b.den ρ).asBool)) = _
      rw [Bool.not_not]
    obtain ⟨n9, h9⟩ : ∃ n9 : Int, (l.getD 9 (.var 9)).den ρ = .int (match t.x with | true => n9 | false => 0) := by
      subst hlv
      cases hx : t.x
      · refine ⟨0, ?_⟩
        simp only [rd.vars, hx]
        rfl
      · refine ⟨((rd.cvI (rd.num12 a5)).den ρ).asInt, ?_⟩
        simp only [rd.vars, hx]
        show (rd.cvI (rd.num12 a5)).den ρ = _
        unfold rd.cvI
        split
        · rfl
        · rw [mk1_den]
          rfl
    have h10 : (l.getD 10 (.var 10)).den ρ = .int (match Nat.beq t.flag 3 with | true => -(a5.den ρ).asInt | false => 0) := by
      cases hf : Nat.beq t.flag 3
      · subst hlv
        simp only [rd.vars, hf]
        rfl
      · have h10' : ∃ m, (l.getD 10 (.var 10)).den ρ = .int m := by
          subst hlv
          simp only [rd.vars, hf]
          exact ⟨_, by show (rd.cv (rd.negT a5)).den ρ = _; unfold rd.cv; rw [mk1_den]; rfl⟩
        obtain ⟨m, hm⟩ := h10'
        obtain ⟨x5, h5, _, h5'⟩ := d 5 (by omega)
        have hfl := Nat.eq_of_beq_eq_true hf
        rw [hfl] at hflag
        have v5 : ρ1.v 5 = .int x5 := by rw [h1e]; exact h5
        have v10 : ρ1.v 10 = .int m := by rw [h1e]; exact hm
        simp only [Rd.flagT, Tm.den, Op2.ev, Rd.N, v5, v10, Sc.asBool_bool, Sc.asInt_int, Bool.and_eq_true, beq_iff_eq, decide_eq_true_eq] at hflag
        obtain ⟨q1, q2, q3⟩ := hflag
        rw [hm]
        have hw : IntKind.i64.wrap (0 - m) = 0 - m := IntWalk.i64_in _ (by simp at q2 q3; omega)
        have q1' : x5 = 0 - m := by rw [← hw]; exact q1
        have : (a5.den ρ).asInt = x5 := h5'.symm
        rw [this]
        show Sc.int m = Sc.int (-x5)
        congr 1
        omega
    have hρ : ρ1 = Rd.envT ρ.f (([a0, a1, a2, a3, a4, a5, a6, a7].map fun a => Sc.int (a.den ρ).asInt) ++ [.bool (b.den ρ).asBool]) n9 t := by
      rw [h1e]
      unfold Rd.envT
      rw [hvl, hab]
      congr 1
      funext i
      match i with
      | 0 => obtain ⟨a, q1, _, q2⟩ := d 0 (by omega); rw [q1, q2]; rfl
      | 1 => obtain ⟨a, q1, _, q2⟩ := d 1 (by omega); rw [q1, q2]; rfl
      | 2 => obtain ⟨a, q1, _, q2⟩ := d 2 (by omega); rw [q1, q2]; rfl
      | 3 => obtain ⟨a, q1, _, q2⟩ := d 3 (by omega); rw [q1, q2]; rfl
      | 4 => obtain ⟨a, q1, _, q2⟩ := d 4 (by omega); rw [q1, q2]; rfl
      | 5 => obtain ⟨a, q1, _, q2⟩ := d 5 (by omega); rw [q1, q2]; rfl
      | 6 => obtain ⟨a, q1, _, q2⟩ := d 6 (by omega); rw [q1, q2]; rfl
      | 7 => obtain ⟨a, q1, _, q2⟩ := d 7 (by omega); rw [q1, q2]; rfl
      | 8 => exact e8
      | 9 => exact h9
      | 10 => exact h10
      | n + 11 =>
        have : l.getD (n + 11) (.var (n + 11)) = .var (n + 11) := by
          subst hlv
          rfl
        rw [this]
        exact hv (n + 11) (by omega)
    refine ⟨n9, ⟨?_, ?_, ?_, ?_, ?_⟩⟩
    · obtain ⟨a, q1, _, q2⟩ := d 6 (by omega)
      have q3 : (l.getD 6 .nil).den ρ = .int a := by
        rw [← q1]
        subst hlv
        rfl
      rw [q3] at hmode
      have := eq_of_beq (show (a == t.mode) = true from hmode)
      rw [← this, q2]
      rfl
    · rw [← hρ]; exact hflag
    · intro hx
      simp only [rd.numF, hx, Tm.den, Op2.ev, Sc.asBool_bool, Bool.and_eq_true, mk2_den] at hnum
      have q9 : (l.getD 9 .nil).den ρ = .int n9 := by
        have : (l.getD 9 .nil).den ρ = (l.getD 9 (.var 9)).den ρ := by subst hlv; rfl
        rw [this, h9, hx]
      obtain ⟨r1, r2⟩ := hnum
      have r3 : ((Tm.app 921 (.cons (l.getD 9 .nil) .nil)).den ρ).asBool = true := by
        split at r2
        · rename_i hd
          exact decideT_den hpc hd
        · cases r2
      simp only [Tm.den] at r3
      rw [q9] at r1 r3
      refine ⟨?_, r3⟩
      have := eq_of_beq (show ((a5.den ρ).asInt == IntKind.i64.wrap (ρ.f 920 [.int n9]).asInt) = true from r1)
      rw [wrap_id (V.f 920 _)] at this
      exact this
    · rw [← hρ]
      exact eq_of_beq (show ((h0.den ρ).asInt == (t.a.den ρ1).asInt) = true from ha)
    · rw [← hρ]
      exact eq_of_beq (show ((h1.den ρ).asInt == (t.b.den ρ1).asInt) = true from hb)

set_option maxRecDepth 100000 in
theorem rd_ok {ρ : Env} {cx' : Cx} (ok : cx'.Ok) (hP : cx'.P = cx.P) (hG : cx'.globs = cx.globs) {S : Specs} (hS : S.Ok ρ cx') (hB : ∀ f, S f ≠ none → ∃ fn c, cx'.P.funcs[f]? = some fn ∧ fn.body = some c) (V : VarsOk ρ) {fuel : Nat} {D : FuncId} {pat : List SVal} {c : Cas} {l : List Value} {tb : Nat → List Tmpl} {h1 : Tm} (hin : Tryz.prog.inits.idxOf? D = none)
    (hsc : ∀ v ∈ pat, v.sc 0 = true) (hl : pat.map (·.conc ρ ι0) = l) (hc : (c.cond.den ρ).asBool = true) {sg : Sg} (so : sg.Ok ρ) {e : Kn} (hs : Sats ρ e) (hx : pxBoth sg (rd.tree tb cx' S fuel D pat h1 c) e = true)
    (hv : ∀ i, 11 ≤ i → ρ.v i = .int 0) (hvl : ρ.val = fun _ => undef) (hab : ρ.ab = Abs.no) :
    ∃ p, DecP D l p ∧ (p.2 = true → Rd.Reads ρ.f tb p.1.scs (ρ.v 0).asInt (match decide (h1 = .var 1) with | true => (ρ.v 1).asInt | false => (h1.den ρ).asInt)) := by
  obtain ⟨z, b, g1, g2, g3⟩ := pxBoth_ok so _ _ hs hx
  simp only [rd.tree, Tree.get, hc] at g1
  cases ha : ((allT (condS c.sub ++ c.pc)).den ρ).asBool with
  | false => rw [ha] at g1; cases g1
  | true =>
  rw [ha] at g1
  have hall := allT_den ρ _ ha
  have hsub : ∀ t ∈ condS c.sub, (t.den ρ).asBool = true := fun t ht => hall t (by simp [ht])
  simp only [Tree.get_bind, Option.bind_eq_some_iff] at g1
  obtain ⟨x, hx1, hx2⟩ := g1
  have hcall := call_ok ok hS hB (conj_den ρ _ (fun t ht => hall t (by simp [ht]))) hx1
  have hcall' : CallOk ρ cx.globs cx.P D pat [] x := by
    rw [← hP, ← hG]
    refine hcall.args ?_ ?_
    · intro v hv
      obtain ⟨u, hu, rfl⟩ := List.mem_map.1 hv
      exact subV_sc u (hsc u hu)
    · intro ι
      rw [List.map_map]
      exact List.map_congr_left fun v _ => (subV_conc hsub ι v).1
  have hpc' : (x.pc.den ρ).asBool = true := by
    cases hp : (x.pc.den ρ).asBool
    · have any : ∀ v, Ans D l v := fun v w hw => by
        have := hcall' (ownK w) w ι0 w (start ρ hw (fun q h => by rw [hab] at h; exact h.elim)) hsc
        rw [hl] at this
        refine Calls.mono (R := _) (show Calls Tryz.prog D l.toArray w _ from this) ?_
        rintro e w' ⟨_, _, _, _, _, hpc, _⟩
        rw [hp] at hpc
        cases hpc
      have := Ans.one hin (any (.int .i64 0)) (any (.int .i64 1))
      cases this
    · rfl
  have e0 := findS_int c.sub hsub 0
  have e1 := findS_int c.sub hsub 1
  unfold rd.leaf at hx2
  split at hx2
  · rename_i l' o hi
    split at hx2
    · rename_i fs bb hq
      obtain ⟨y, hy, hyv, h8, hk, hscs⟩ := fldsOf_all V hq
      refine ⟨(y, (o.den ρ).asBool), ⟨hy, ans_of hcall' hsc hl (fun ι => by rw [insOf_conc hi ι, hyv ι]) (by rw [hab]; exact fun _ h => h)⟩, fun ho => ?_⟩
      split at hx2
      · rename_i hof
        have hof := of_decide_eq_true hof
        rw [hof] at ho
        cases ho
      · simp only [Tree.get] at hx2
        cases hq2 : ((Tm.op2 .bor (mk1 .not o) (anyT ((rd.cands tb fs (findS false c.sub 0) (match decide (h1 = .var 1) with | true => findS false c.sub 1 | false => h1)).map (rd.by' x.pc fs bb (findS false c.sub 0) (match decide (h1 = .var 1) with | true => findS false c.sub 1 | false => h1))))).den ρ).asBool with
        | false => rw [hq2] at hx2; cases hx2
        | true =>
          simp only [Tm.den, Op2.ev, Sc.asBool_bool, Bool.or_eq_true, mk1_den] at hq2
          rcases hq2 with hq2 | hq2
          · have : (!(o.den ρ).asBool) = true := hq2
            rw [show (o.den ρ).asBool = true from ho] at this
            cases this
          · obtain ⟨u, hu, hut⟩ := anyT_den ρ _ hq2
            obtain ⟨t, ht, rfl⟩ := List.mem_map.1 hu
            obtain ⟨n9, hby⟩ := rd_by V hv hvl hab hpc' h8 hk hut
            have htb := (List.mem_filter.1 ht).1
            rw [← hscs] at hby
            refine ⟨t, ?_, n9, ?_⟩
            · split at htb
              · rename_i k hk0
                have : (y.scs.getD 0 (.int 0)).asInt.toNat = k := by
                  rw [hscs]
                  match fs, h8, hk0 with
                  | a0 :: r, _, hk0 =>
                    unfold rd.opOf at hk0
                    split at hk0
                    · rename_i k' he
                      simp only [Option.some.injEq] at hk0
                      subst hk0
                      have he : a0 = .num (.ofNat k') := he
                      subst he
                      rfl
                    · cases hk0
                rw [this]
                exact htb
              · simp at htb
            · rw [e0] at hby
              revert hby
              cases decide (h1 = .var 1)
              · exact id
              · intro hby
                simp only [e1] at hby
                exact hby
    · cases hx2
  · cases hx2

set_option maxRecDepth 100000 in
theorem knBH {n : Int} (h : Hw n) (it : Bool) : Sats (envOf F2 (scsH n it)) sho.knB :=
  ((knH_ok h.has it).tell (.le 0 65535) (decide_eq_true (show n ≤ 65535 by have h2 : n < 65536 := h.2; omega))).tell (.le 0 (-1)) (decide_eq_false (show ¬ n ≤ -1 by have h2 : 0 ≤ n := h.1; omega))
set_option maxRecDepth 100000 in
theorem knBT {a b : Int} (ha : Hw a) (hb : Hw b) (it : Bool) : Sats (envOf F2 (scsT a b it)) tal.knB :=
  ((((knT_ok ha.has hb.has it).tell (.le 0 65535) (decide_eq_true (show a ≤ 65535 by have h2 : a < 65536 := ha.2; omega))).tell (.le 0 (-1)) (decide_eq_false (show ¬ a ≤ -1 by have h2 : 0 ≤ a := ha.1; omega))).tell (.le 1 65535) (decide_eq_true (show b ≤ 65535 by have h2 : b < 65536 := hb.2; omega))).tell (.le 1 (-1)) (decide_eq_false (show ¬ b ≤ -1 by have h2 : 0 ≤ b := hb.1; omega))

set_option maxRecDepth 100000 in
theorem sho_rd (H : ∀ j : Nat, j < sho.cases.length → sho.atP j = true) {n : Int} (hn : Hw n) (it : Bool) : ∃ p, DecP 37 [.int .i64 n, .bool it] p ∧ (p.2 = true → Rd.Reads F2 Rd.narT p.1.scs n 0) := by
  have so := sgV_ok (ρ := envOf F2 (scsH n it)) F2_signs rfl
  have S := knBH hn it
  obtain ⟨c, hc, hcond⟩ := cas_cov so S sho.covB
  obtain ⟨j, hj, hjc⟩ := List.getElem_of_mem hc
  have hnth : sho.nth j = c := by simp only [sho.nth, List.getD, List.getElem?_eq_getElem hj, Option.getD_some, hjc]
  have hgo := H j hj
  rw [sho.atP, hnth] at hgo
  obtain ⟨sg', so', hgo⟩ := px2_ok (ρ := envOf F2 (scsH n it)) F2_signs rfl hgo
  exact rd_ok cxsok' rfl rfl (widS_ok (scsH_ok hn.has it) rfl) widS_body (scsH_ok hn.has it) (by kernel_rfl) (by intro v hv; simp [sho.pat] at hv; rcases hv with rfl | rfl <;> rfl) rfl hcond so' S hgo
    (fun i hi => by match i, hi with | k + 11, _ => rfl) rfl rfl

set_option maxRecDepth 100000 in
theorem tal_rd (H : ∀ j : Nat, j < tal.casesP.length → tal.atP j = true) {a b : Int} (ha : Hw a) (hb : Hw b) (it : Bool) : ∃ p, DecP 38 [.int .i64 a, .int .i64 b, .bool it] p ∧ (p.2 = true → Rd.Reads F2 Rd.widT p.1.scs a b) := by
  have so := sgV_ok (ρ := envOf F2 (scsT a b it)) F2_signs rfl
  have S := knBT ha hb it
  obtain ⟨c, hc, hcond⟩ := cas_cov so S tal.covP
  obtain ⟨j, hj, hjc⟩ := List.getElem_of_mem hc
  have hnth : tal.nthP j = c := by simp only [tal.nthP, List.getD, List.getElem?_eq_getElem hj, Option.getD_some, hjc]
  have hgo := H j hj
  rw [tal.atP, hnth] at hgo
  obtain ⟨sg', so', hgo⟩ := px2_ok (ρ := envOf F2 (scsT a b it)) F2_signs rfl hgo
  exact rd_ok cxsok' rfl rfl (widS_ok (scsT_ok ha.has hb.has it) rfl) widS_body (scsT_ok ha.has hb.has it) (by kernel_rfl) (by intro v hv; simp [tal.pat3] at hv; rcases hv with rfl | rfl | rfl <;> rfl) rfl hcond so' S hgo
    (fun i hi => by match i, hi with | k + 11, _ => rfl) rfl rfl
end Go.Proofs.YtnpfihlaocpcfaaGreatDoor
/- For the seat: the IT state behind an instruction, of both packages. -/
namespace Go.Proofs.YtnpfihlaocpcfaaGreatDoor
open Go.Sx Go.ChangeShapes Go.WideShapes Go.RowKit Go.Joins Go.Deep

namespace aft
def v (i : Nat) : Tm := .var i
def and (a : Tm) (n : Int) : Tm := .op2 (.and .i64) a (.num n)
def rem (a : Tm) (n : Int) : Tm := .op2 .rem a (.num n)
def nextOf (a : Tm) : Tm := .ite (.op2 .eq (and a 7) (.num 0)) (.num 0) (.op2 (.or .i64) (and a 224) (and (.op2 (.shl .i64) a (.num 1)) 31))
def nextRof (a : Tm) : Tm := .ite (.op2 .eq (rem a 8) (.num 0)) (.num 0) (.op2 (.add .i64) (.op2 (.mul .i64) (.op2 (.quo .i64) a (.num 32)) (.num 32)) (rem (.op2 (.mul .i64) (rem a 32) (.num 2)) 32))
def behind (n : Tm) : Tm := .ite (.op2 .eq (v 1) (.num 42)) (.op2 (.or .i64) (.op2 (.shl .i64) (v 2) (.num 4)) (v 6)) n
def low8 : Tm := and (v 0) 255
def aftT : Tm := behind (nextOf (v 0))
def aftR : Tm := behind (nextRof low8)
def ins : SVal := .agg (.ofList [.int .i64 (v 1), .int .i64 (v 2), .int .i64 (v 3), .int .i64 (v 4), .int .i64 (v 5), .int .i64 (v 6), .int .i64 (v 7), .int .i64 (v 8), .bool (v 9)])
def pat : List SVal := [.int .i64 (v 0), ins]
def kn : Kn := ⟨[], [], [], [], [0]⟩
set_option maxRecDepth 100000 in
theorem run_p : pxIs sg (.int .i64 aftT) (callT cx noS (run cx noS 400) 18 pat [] (.bit true)) kn = true := by kernel_rfl
set_option maxRecDepth 100000 in
theorem run_r : pxIs sg (.int .i64 aftR) (callT cx noS (run cx noS 400) 13 pat [] (.bit true)) kn = true := by kernel_rfl
set_option maxRecDepth 100000 in
theorem low_a : pxT sg (.op2 .eq (nextOf (v 0)) (nextOf low8)) kn (fun _ => true) = true := by kernel_rfl
set_option maxRecDepth 100000 in
theorem low_b : pxT sg (.op2 .le (.num 0) low8) kn (fun _ => true) = true := by kernel_rfl
set_option maxRecDepth 100000 in
theorem low_c : pxT sg (.op2 .le low8 (.num 255)) kn (fun _ => true) = true := by kernel_rfl
def ρ0 : Env := ⟨fun _ => .int 0, fun _ _ => .int 0, fun _ => undef, Abs.no⟩
def same (n : Nat) : Bool := ((nextOf (.num n)).den ρ0).asInt == ((nextRof (.num n)).den ρ0).asInt
def allR (p : Nat → Bool) : Nat → Bool
  | 0 => true
  | n + 1 => p n && allR p n
set_option maxRecDepth 100000 in
theorem allR_get {p : Nat → Bool} : ∀ n, allR p n = true → ∀ r, r < n → p r = true
  | 0, _, r, h => by omega
  | n + 1, hp, r, h => by
    simp only [allR, Bool.and_eq_true] at hp
    by_cases e : r = n
    · subst e; exact hp.1
    · exact allR_get n hp.2 r (by omega)
set_option maxRecDepth 100000 in
theorem same256 : allR same 256 = true := by kernel_rfl
set_option maxRecDepth 100000 in
theorem nextOf_den {ρ : Env} {a : Tm} {n : Int} (h : a.den ρ = .int n) : (nextOf a).den ρ = (nextOf (.num n)).den ρ0 := by
  simp only [nextOf, and, Tm.den, h]
set_option maxRecDepth 100000 in
theorem nextRof_den {ρ : Env} {a : Tm} {n : Int} (h : a.den ρ = .int n) : (nextRof a).den ρ = (nextRof (.num n)).den ρ0 := by
  simp only [nextRof, rem, Tm.den, h]
set_option maxRecDepth 100000 in
theorem next_same {ρ : Env} (so : sg.Ok ρ) (hs : Sats ρ kn) : ((nextOf (v 0)).den ρ).asInt = ((nextRof low8).den ρ).asInt := by
  have a : (((nextOf (v 0)).den ρ).asInt == ((nextOf low8).den ρ).asInt) = true := (pxT_ok so hs low_a).1
  have b : decide ((0 : Int) ≤ (low8.den ρ).asInt) = true := (pxT_ok so hs low_b).1
  have c : decide ((low8.den ρ).asInt ≤ (255 : Int)) = true := (pxT_ok so hs low_c).1
  rw [eq_of_beq a]
  obtain ⟨n, hn⟩ := Int.eq_ofNat_of_zero_le (of_decide_eq_true b)
  have c := of_decide_eq_true c
  have hd : low8.den ρ = .int n := by rw [← hn]; rfl
  rw [nextOf_den hd, nextRof_den hd]
  exact eq_of_beq (allR_get 256 same256 n (by omega))
set_option maxRecDepth 100000 in
theorem aft_same {ρ : Env} (so : sg.Ok ρ) (hs : Sats ρ kn) : (aftR.den ρ).asInt = (aftT.den ρ).asInt := by
  unfold aftR aftT behind
  simp only [Tm.den]
  split
  · rfl
  · exact (next_same so hs).symm
end aft

def scsA (it : Int) (x : Fields) : List Sc := [.int it, .int x.x0, .int x.x1, .int x.x2, .int x.x3, .int x.x4, .int x.x5, .int x.x6, .int x.x7, .bool x.b]
/-- The IT state behind an instruction. -/
noncomputable def aftI (it : Int) (x : Fields) : Int := (aft.aftT.den (envOf F2 (scsA it x))).asInt

set_option maxRecDepth 100000 in
theorem scsA_ok {it : Int} {x : Fields} (hi : kHas .i64 it) (h : x.Ok) : VarsOk (envOf F2 (scsA it x)) := by
  refine ⟨?_, F2_has⟩
  intro i
  match i with
  | 0 => exact hi
  | 1 => exact h.h0
  | 2 => exact h.h1
  | 3 => exact h.h2
  | 4 => exact h.h3
  | 5 => exact h.h4
  | 6 => exact h.h5
  | 7 => exact h.h6
  | 8 => exact h.h7
  | 9 => exact zero_has
  | n + 10 => exact zero_has

set_option maxRecDepth 100000 in
theorem aft_has {it : Int} {x : Fields} (hi : kHas .i64 it) (h : x.Ok) : kHas .i64 (aftI it x) := inK_ok (scsA_ok hi h) .i64 aft.aftT (by decide +kernel)

set_option maxRecDepth 100000 in
theorem aft_kn {it : Int} {x : Fields} (hi : kHas .i64 it) (h : x.Ok) : Sats (envOf F2 (scsA it x)) aft.kn := by
  refine Sats.start (scsA_ok hi h) _ ?_
  intro i hi
  simp only [List.mem_cons, List.not_mem_nil, or_false] at hi
  subst hi
  exact ⟨_, rfl⟩

set_option maxRecDepth 100000 in
theorem aft_p {it : Int} {x : Fields} (hi : kHas .i64 it) (h : x.Ok) : Ans 18 [.int .i64 it, x.val] (.int .i64 (aftI it x)) := by
  obtain ⟨y, h1, h2⟩ := pxIs_ok (sg_ok' (ρ := envOf F2 (scsA it x)) F2_signs) _ _ (aft_kn hi h) aft.run_p
  refine ans_of (call_ok (ρ := envOf F2 (scsA it x)) cxok (noS_ok _ _) (noS_body _) rfl h1) (by intro v hv; simp [aft.pat] at hv; rcases hv with rfl | rfl <;> rfl) rfl ?_
  intro ι
  rw [h2]
  rfl

set_option maxRecDepth 100000 in
theorem aft_r {it : Int} {x : Fields} (hi : kHas .i64 it) (h : x.Ok) : Ans 13 [.int .i64 it, x.val] (.int .i64 (aftI it x)) := by
  have so := sg_ok' (ρ := envOf F2 (scsA it x)) F2_signs
  obtain ⟨y, h1, h2⟩ := pxIs_ok so _ _ (aft_kn hi h) aft.run_r
  refine ans_of (call_ok (ρ := envOf F2 (scsA it x)) cxok (noS_ok _ _) (noS_body _) rfl h1) (by intro v hv; simp [aft.pat] at hv; rcases hv with rfl | rfl <;> rfl) rfl ?_
  intro ι
  rw [h2]
  exact congrArg _ (aft.aft_same so (aft_kn hi h))

end Go.Proofs.YtnpfihlaocpcfaaGreatDoor
/- For the seat: the reference's Decode: what it answers at any halfwords, where its parts answer. -/
namespace Go.Proofs.YtnpfihlaocpcfaaGreatDoor
open Go.Sx Go.ChangeShapes Go.WideShapes Go.RowKit Go.Joins Go.Deep

namespace lng
def longT' : Tm := .op2 .le (.num 29) (.op2 (.and .i64) (.op2 (.shr .i64) (.var 0) (.num 11)) (.num 31))
set_option maxRecDepth 100000 in
theorem runR : pxIs sg (.bool longT') (callT cx noS (Go.Sx.run cx noS 400) 32 [.int .i64 (.var 0)] [] (.bit true)) kn = true := by kernel_rfl
end lng

/-- Does a halfword begin an instruction of two, as the reference has it? -/
def longR (a : Int) : Bool := (lng.longT'.den (envOf F [.int a])).asBool

set_option maxRecDepth 100000 in
theorem longR_ans {a : Int} (ha : kHas .i64 a) : Ans 32 [.int .i64 a] (.bool (longR a)) := by
  have S : Sats (envOf F [.int a]) lng.kn := by
    refine Sats.start (one_vars (s := .int a) ha) _ ?_
    intro i hi
    simp only [List.mem_cons, List.not_mem_nil, or_false] at hi
    subst hi
    exact ⟨_, rfl⟩
  obtain ⟨x', h1, h2⟩ := pxIs_ok (sg_ok' F_signs) _ _ S lng.runR
  refine ans_of (call_ok (ρ := envOf F [.int a]) cxok (noS_ok _ _) (noS_body _) rfl h1) (by intro v hv; simp at hv; subst hv; rfl) rfl ?_
  intro ι
  rw [h2]
  rfl

set_option maxRecDepth 100000 in
theorem set9_below {w W : World} {n : Nat} (h : Below n w W) {b : Nat} (hb : n ≤ b) (v0 v1 v2 v3 v4 v5 v6 v7 v8 : Value) : Below n w (((((((((W.setCell ⟨b, 0, none⟩ v0).setCell ⟨b, 1, none⟩ v1).setCell ⟨b, 2, none⟩ v2).setCell ⟨b, 3, none⟩ v3).setCell ⟨b, 4, none⟩ v4).setCell ⟨b, 5, none⟩ v5).setCell ⟨b, 6, none⟩ v6).setCell ⟨b, 7, none⟩ v7).setCell ⟨b, 8, none⟩ v8) :=
  ((((((((h.setCell hb _).setCell hb _).setCell hb _).setCell hb _).setCell hb _).setCell hb _).setCell hb _).setCell hb _).setCell hb _

set_option maxRecDepth 100000 in
theorem decR_nil (A : Option Addr) (cap : Nat) (it : Bool) (w : World) : Calls Tryz.prog 20 #[.slice A 0 cap, .bool it] w fun e w' => RetD zeroF 0 2 e w w' := by
  go_enter Tryz.func20, Tryz.ntmps20
  go_wp2_with fail
  exact bodyPost_ret (v := .tuple #[.agg #[.int .i64 0, .int .i64 0, .int .i64 0, .int .i64 0, .int .i64 0, .int .i64 0, .int .i64 0, .int .i64 0, .bool false], .int .i64 0, .int .i64 2]) (by simp [results, Tryz.results20, go_sem]) rfl ⟨rfl, (Below.refl _ _).alloc (Nat.le_refl _) _⟩

set_option maxRecDepth 100000 in
set_option maxHeartbeats 1000000 in
theorem decR_short (a : Int) (r : List Int) (it : Bool) (A : Option Addr) (cap : Nat) (w : World) (h : IAt w w.heap.size A (a :: r)) (hlen : (a :: r).length ≤ maxLen) (hw : Laid w)
    (hL : Ans 32 [.int .i64 a] (.bool false)) (x0 x1 x2 x3 x4 x5 x6 x7 : Int) (xb ok : Bool)
    (hS : Ans 33 [.int .i64 a, .bool it] (.tuple #[.agg #[.int .i64 x0, .int .i64 x1, .int .i64 x2, .int .i64 x3, .int .i64 x4, .int .i64 x5, .int .i64 x6, .int .i64 x7, .bool xb], .bool ok])) :
    Calls Tryz.prog 20 #[.slice A (a :: r).length cap, .bool it] w fun e w' => RetD (if ok then ⟨x0, x1, x2, x3, x4, x5, x6, x7, xb⟩ else zeroF) (if ok then 1 else 0) (if ok then 0 else 10) e w w' := by
  obtain ⟨g, off, rfl, hg, hc⟩ := h.at_ (k := 0) (by simp)
  simp only [List.getElem_cons_zero, Nat.add_zero] at hc
  unfold maxLen at hlen
  have hn0 : 0 < (a :: r).length := by simp
  clear h
  generalize (a :: r).length = n at *
  have e0 : ((n : Int) == 0) = false := by simpa using (show ¬ n = 0 by omega)
  have lay : ∀ w1 : World, Below w.heap.size w w1 → Laid w1 := fun w1 hb => laid_below hw hb
  have b0 : Below w.heap.size w (w.alloc (.cells zeroF.cells 30)) := (Below.refl _ _).alloc (Nat.le_refl _) _
  have i0 : InsAt (w.alloc (.cells zeroF.cells 30)) w.heap.size zeroF := InsAt.new _ _ _
  have IZ := Lib.hid i0
  clear i0
  go_enter Tryz.func20, Tryz.ntmps20
  go_wp2_with fail
  ((with_reducible refine (hL.go (lay _ b0)).mono ?_); rintro e w1 ⟨rfl, hb1⟩)
  have c1 := b0.trans (hb1.mono (by simp))
  have i1 : Hid (InsAt w1 w.heap.size zeroF) := Lib.hid (IZ.out.below hb1 (by simp))
  clear IZ
  have hc1 : w1.cell? ⟨g, off, none⟩ = some (.int .i64 a) := (c1.cell (p := ⟨g, off, none⟩) hg).trans hc
  go_wp2_with fail
  ((with_reducible refine (hS.go (lay _ c1)).mono ?_); rintro e w2 ⟨rfl, hb2⟩)
  have c2 := c1.trans (hb2.mono c1.size)
  have z1 : w.heap.size < w1.heap.size := by have := hb1.size; simp at this; omega
  have i2 : Hid (InsAt w2 w.heap.size zeroF) := Lib.hid (i1.out.below hb2 z1)
  clear i1
  have z2 : w.heap.size < w2.heap.size := Nat.lt_of_lt_of_le z1 hb2.size
  clear b0 hc hc1 hL hS lay
  obtain ⟨⟨p0, p1, p2, p3, p4, p5, p6, p7, p8⟩, q0, q1, q2, q3, q4, q5, q6, q7, q8⟩ := i2.out
  simp only at p0 p1 p2 p3 p4 p5 p6 p7 p8
  have hne : ¬ w.heap.size = w2.heap.size := by omega
  have hne' : ¬ w2.heap.size = w.heap.size := by omega
  cases ok
  · go_wp2_with fail
    obtain ⟨W3, hW3⟩ : ∃ W3, ((((((((((w2.setCell ⟨w.heap.size, 0, none⟩ (.int .i64 0)).setCell ⟨w.heap.size, 1, none⟩ (.int .i64 0)).setCell ⟨w.heap.size, 2, none⟩ (.int .i64 0)).setCell ⟨w.heap.size, 3, none⟩ (.int .i64 0)).setCell ⟨w.heap.size, 4, none⟩ (.int .i64 0)).setCell ⟨w.heap.size, 5, none⟩ (.int .i64 0)).setCell ⟨w.heap.size, 6, none⟩ (.int .i64 0)).setCell ⟨w.heap.size, 7, none⟩ (.int .i64 0)).setCell ⟨w.heap.size, 8, none⟩ (.bool false))) = W3 := ⟨_, rfl⟩
    have B3 : Below w.heap.size w W3 := by rw [← hW3]; exact set9_below c2 (Nat.le_refl _) _ _ _ _ _ _ _ _ _
    have hz3 : w.heap.size < W3.heap.size := by rw [← hW3]; simpa using z2
    obtain ⟨⟨r0, r1, r2, r3, r4, r5, r6, r7, r8⟩, _⟩ := st9 i2.out zeroF W3 hW3
    simp only at r0 r1 r2 r3 r4 r5 r6 r7 r8
    rw [hW3]
    obtain ⟨W4, hW4⟩ : ∃ W4, W3.alloc (.cells #[.int .i64 x0, .int .i64 x1, .int .i64 x2, .int .i64 x3, .int .i64 x4, .int .i64 x5, .int .i64 x6, .int .i64 x7, .bool xb] 30) = W4 := ⟨_, rfl⟩
    have b34 : Below W3.heap.size W3 W4 := by rw [← hW4]; exact (Below.refl _ _).alloc (Nat.le_refl _) _
    have B4 : Below w.heap.size w W4 := by rw [← hW4]; exact B3.alloc B3.size _
    have k34 := fun o => b34.cell (p := ⟨w.heap.size, o, none⟩) hz3
    replace r0 := (k34 0).trans r0
    replace r1 := (k34 1).trans r1
    replace r2 := (k34 2).trans r2
    replace r3 := (k34 3).trans r3
    replace r4 := (k34 4).trans r4
    replace r5 := (k34 5).trans r5
    replace r6 := (k34 6).trans r6
    replace r7 := (k34 7).trans r7
    replace r8 := (k34 8).trans r8
    rw [hW4]
    exact bodyPost_ret (v := .tuple #[.agg #[.int .i64 0, .int .i64 0, .int .i64 0, .int .i64 0, .int .i64 0, .int .i64 0, .int .i64 0, .int .i64 0, .bool false], .int .i64 0, .int .i64 10]) (by simp [results, Tryz.results20, go_sem, r0, r1, r2, r3, r4, r5, r6, r7, r8]) rfl ⟨rfl, B4⟩
  · go_wp2_with fail
    obtain ⟨W3, hW3⟩ : ∃ W3, ((((((((((w2.setCell ⟨w.heap.size, 0, none⟩ (.int .i64 x0)).setCell ⟨w.heap.size, 1, none⟩ (.int .i64 x1)).setCell ⟨w.heap.size, 2, none⟩ (.int .i64 x2)).setCell ⟨w.heap.size, 3, none⟩ (.int .i64 x3)).setCell ⟨w.heap.size, 4, none⟩ (.int .i64 x4)).setCell ⟨w.heap.size, 5, none⟩ (.int .i64 x5)).setCell ⟨w.heap.size, 6, none⟩ (.int .i64 x6)).setCell ⟨w.heap.size, 7, none⟩ (.int .i64 x7)).setCell ⟨w.heap.size, 8, none⟩ (.bool xb))) = W3 := ⟨_, rfl⟩
    have B3 : Below w.heap.size w W3 := by rw [← hW3]; exact set9_below c2 (Nat.le_refl _) _ _ _ _ _ _ _ _ _
    have hz3 : w.heap.size < W3.heap.size := by rw [← hW3]; simpa using z2
    obtain ⟨⟨r0, r1, r2, r3, r4, r5, r6, r7, r8⟩, _⟩ := st9 i2.out ⟨x0, x1, x2, x3, x4, x5, x6, x7, xb⟩ W3 hW3
    simp only at r0 r1 r2 r3 r4 r5 r6 r7 r8
    rw [hW3]
    obtain ⟨W4, hW4⟩ : ∃ W4, W3.alloc (.cells #[.int .i64 x0, .int .i64 x1, .int .i64 x2, .int .i64 x3, .int .i64 x4, .int .i64 x5, .int .i64 x6, .int .i64 x7, .bool xb] 30) = W4 := ⟨_, rfl⟩
    have b34 : Below W3.heap.size W3 W4 := by rw [← hW4]; exact (Below.refl _ _).alloc (Nat.le_refl _) _
    have B4 : Below w.heap.size w W4 := by rw [← hW4]; exact B3.alloc B3.size _
    have k34 := fun o => b34.cell (p := ⟨w.heap.size, o, none⟩) hz3
    replace r0 := (k34 0).trans r0
    replace r1 := (k34 1).trans r1
    replace r2 := (k34 2).trans r2
    replace r3 := (k34 3).trans r3
    replace r4 := (k34 4).trans r4
    replace r5 := (k34 5).trans r5
    replace r6 := (k34 6).trans r6
    replace r7 := (k34 7).trans r7
    replace r8 := (k34 8).trans r8
    rw [hW4]
    exact bodyPost_ret (v := .tuple #[.agg #[.int .i64 x0, .int .i64 x1, .int .i64 x2, .int .i64 x3, .int .i64 x4, .int .i64 x5, .int .i64 x6, .int .i64 x7, .bool xb], .int .i64 1, .int .i64 0]) (by simp [results, Tryz.results20, go_sem, r0, r1, r2, r3, r4, r5, r6, r7, r8]) rfl ⟨rfl, B4⟩

set_option maxRecDepth 100000 in
set_option maxHeartbeats 1000000 in
theorem decR_end (a : Int) (it : Bool) (A : Option Addr) (cap : Nat) (w : World) (h : IAt w w.heap.size A [a]) (hw : Laid w) (hL : Ans 32 [.int .i64 a] (.bool true)) :
    Calls Tryz.prog 20 #[.slice A 1 cap, .bool it] w fun e w' => RetD zeroF 0 2 e w w' := by
  obtain ⟨g, off, rfl, hg, hc⟩ := h.at_ (k := 0) (by simp)
  simp only [List.getElem_cons_zero, Nat.add_zero] at hc
  clear h
  have b0 : Below w.heap.size w (w.alloc (.cells zeroF.cells 30)) := (Below.refl _ _).alloc (Nat.le_refl _) _
  have i0 : InsAt (w.alloc (.cells zeroF.cells 30)) w.heap.size zeroF := InsAt.new _ _ _
  have IZ := Lib.hid i0
  clear i0
  go_enter Tryz.func20, Tryz.ntmps20
  go_wp2_with fail
  ((with_reducible refine (hL.go (laid_below hw b0)).mono ?_); rintro e w1 ⟨rfl, hb1⟩)
  have c1 := b0.trans (hb1.mono (by simp))
  obtain ⟨⟨p0, p1, p2, p3, p4, p5, p6, p7, p8⟩, q0, q1, q2, q3, q4, q5, q6, q7, q8⟩ := IZ.out.below hb1 (by simp)
  simp only at p0 p1 p2 p3 p4 p5 p6 p7 p8
  clear IZ hL b0
  go_wp2_with fail
  exact bodyPost_ret (v := .tuple #[.agg #[.int .i64 0, .int .i64 0, .int .i64 0, .int .i64 0, .int .i64 0, .int .i64 0, .int .i64 0, .int .i64 0, .bool false], .int .i64 0, .int .i64 2]) (by simp [results, Tryz.results20, go_sem, p0, p1, p2, p3, p4, p5, p6, p7, p8]) rfl ⟨rfl, set9_below c1 (Nat.le_refl _) _ _ _ _ _ _ _ _ _⟩

set_option maxRecDepth 100000 in
set_option maxHeartbeats 2000000 in
theorem decR_long (a b : Int) (r : List Int) (it : Bool) (A : Option Addr) (cap : Nat) (w : World) (h : IAt w w.heap.size A (a :: b :: r)) (hlen : (a :: b :: r).length ≤ maxLen) (hw : Laid w)
    (hL : Ans 32 [.int .i64 a] (.bool true))
    (y0 y1 y2 y3 y4 y5 y6 y7 : Int) (yb : Bool) (yk : Bool)
    (hT : Ans 34 [.int .i64 a, .int .i64 b, .bool it] (.tuple #[.agg #[.int .i64 y0, .int .i64 y1, .int .i64 y2, .int .i64 y3, .int .i64 y4, .int .i64 y5, .int .i64 y6, .int .i64 y7, .bool yb], .bool yk])) :
    Calls Tryz.prog 20 #[.slice A (a :: b :: r).length cap, .bool it] w fun e w' => RetD (if yk then ⟨y0, y1, y2, y3, y4, y5, y6, y7, yb⟩ else zeroF) (if yk then 2 else 0) (if yk then 0 else 10) e w w' := by
  obtain ⟨g, off, rfl, hg, hc⟩ := h.at_ (k := 0) (by simp)
  obtain ⟨g', off', hA, hg', hd⟩ := h.at_ (k := 1) (by simp)
  simp only [Option.some.injEq, Addr.mk.injEq, and_true] at hA
  obtain ⟨rfl, rfl⟩ := hA
  simp only [List.getElem_cons_zero, Nat.add_zero] at hc
  simp only [List.getElem_cons_succ, List.getElem_cons_zero] at hd
  unfold maxLen at hlen
  have hn0 : 2 ≤ (a :: b :: r).length := by simp
  clear h hg'
  generalize (a :: b :: r).length = n at *
  have e0 : ((n : Int) == 0) = false := by simpa using (show ¬ n = 0 by omega)
  have lay : ∀ w1 : World, Below w.heap.size w w1 → Laid w1 := fun w1 hb => laid_below hw hb
  have b0 : Below w.heap.size w (w.alloc (.cells zeroF.cells 30)) := (Below.refl _ _).alloc (Nat.le_refl _) _
  have i0 : InsAt (w.alloc (.cells zeroF.cells 30)) w.heap.size zeroF := InsAt.new _ _ _
  have IZ := Lib.hid i0
  clear i0
  have hlt2 : decide ((n : Int) < 2) = false := decide_eq_false (by omega)
  have h1n : (1 : Int) < (n : Int) := by omega
  have h0n : (0 : Int) < (n : Int) := by omega
  have h0m : 0 < n := by omega
  have h1m : 1 < n := by omega
  go_enter Tryz.func20, Tryz.ntmps20
  go_wp2_with fail
  ((with_reducible refine (hL.go (lay _ b0)).mono ?_); rintro e w3 ⟨rfl, hb3⟩)
  have c3 := b0.trans (hb3.mono (by simp))
  have i3 : Hid (InsAt w3 w.heap.size zeroF) := Lib.hid (IZ.out.below hb3 (by simp))
  clear IZ
  have hc3 : w3.cell? ⟨g, off, none⟩ = some (.int .i64 a) := (c3.cell (p := ⟨g, off, none⟩) hg).trans hc
  have hd3 : w3.cell? ⟨g, off + 1, none⟩ = some (.int .i64 b) := (c3.cell (p := ⟨g, off + 1, none⟩) hg).trans hd
  have z03 : w.heap.size < w3.drew.heap.size := by have := hb3.size; simp at this; show w.heap.size < w3.heap.size; omega
  go_wp2_with fail
  have k0 : ∀ X : World, Below w3.heap.size w3.drew X → X.cell? ⟨g, off, none⟩ = some (.int .i64 a) := fun X h => (h.cell (p := ⟨g, off, none⟩) (Nat.lt_of_lt_of_le hg c3.size)).trans hc3
  have k1 : ∀ X : World, Below w3.heap.size w3.drew X → X.cell? ⟨g, off + 1, none⟩ = some (.int .i64 b) := fun X h => (h.cell (p := ⟨g, off + 1, none⟩) (Nat.lt_of_lt_of_le hg c3.size)).trans hd3
  have hg3 : g < w3.heap.size := Nat.lt_of_lt_of_le hg c3.size
  have nb : w3.heap.size ≠ g := by omega
  clear hL
  go_region_held3 (fun w' => w'.cell? ⟨g, off, none⟩ = some (.int .i64 a) ∧ w'.cell? ⟨g, off + 1, none⟩ = some (.int .i64 b))
    (first
      | (with_reducible exact ⟨hc4, hd4⟩)
      | (with_reducible exact ⟨(far9 nb _ _ _ _ _ _ _ _ _ _).trans hc4, (far9 nb _ _ _ _ _ _ _ _ _ _).trans hd4⟩)
      | (with_reducible exact ⟨k0 _ ((Below.refl _ _).alloc (Nat.le_refl _) _), k1 _ ((Below.refl _ _).alloc (Nat.le_refl _) _)⟩)
      | (with_reducible exact ⟨k0 _ (B1.alloc B1.size _), k1 _ (B1.alloc B1.size _)⟩)
      | go_keep)
    (first
      | (go_at_call 34; refine (hT.go (lay _ c3.drew)).mono ?_; rintro e w4 ⟨rfl, hb4⟩; have B1 : Below w3.heap.size w3.drew w4 := hb4; have hc4 := k0 _ B1; have hd4 := k1 _ B1)
      | (go_at_call 34; refine (hT.go (lay _ (c3.drew.alloc c3.size (.cells (Fields.cells zeroF) 30)))).mono ?_; rintro e w4 ⟨rfl, hb4⟩; have B1 : Below w3.heap.size w3.drew w4 := ((Below.refl _ _).alloc (Nat.le_refl _) _).trans (hb4.mono (by simp)); have hc4 := k0 _ B1; have hd4 := k1 _ B1; have IZ : InsAt w4 w3.heap.size zeroF := (InsAt.new w3.drew zeroF 30).below hb4 (by simp); obtain ⟨⟨P0, P1, P2, P3, P4, P5, P6, P7, P8⟩, Q0, Q1, Q2, Q3, Q4, Q5, Q6, Q7, Q8⟩ := IZ))
  · generalize hW5 : w4.alloc (.cells #[.int .i64 y0, .int .i64 y1, .int .i64 y2, .int .i64 y3, .int .i64 y4, .int .i64 y5, .int .i64 y6, .int .i64 y7, .bool yb] 30) = W5 at *
    have b45 : Below w4.heap.size w4 W5 := by rw [← hW5]; exact (Below.refl _ _).alloc (Nat.le_refl _) _
    have z4 : w3.heap.size ≤ w4.heap.size := B1.size
    have B5 : Below w.heap.size w W5 := (c3.drew.trans (B1.mono c3.size)).trans (b45.mono (by have := c3.size; omega))
    have J : InsAt W5 w4.heap.size ⟨y0, y1, y2, y3, y4, y5, y6, y7, yb⟩ := by rw [← hW5]; exact InsAt.new w4 ⟨y0, y1, y2, y3, y4, y5, y6, y7, yb⟩ 30
    have z03' : w.heap.size < w3.heap.size := z03
    obtain ⟨⟨p0, p1, p2, p3, p4, p5, p6, p7, p8⟩, q0, q1, q2, q3, q4, q5, q6, q7, q8⟩ := ((i3.out.drew.below B1 z03).below b45 (Nat.lt_of_lt_of_le z03' z4))
    obtain ⟨⟨r0, r1, r2, r3, r4, r5, r6, r7, r8⟩, _⟩ := J
    simp only at p0 p1 p2 p3 p4 p5 p6 p7 p8
    simp only at r0 r1 r2 r3 r4 r5 r6 r7 r8
    have hne : ¬ w.heap.size = w4.heap.size := by omega
    have hne' : ¬ w4.heap.size = w.heap.size := by omega
    clear hW5 hc3 hd3 hc4 hd4 k0 k1 i3
    generalize w4.heap.size = X at *
    cases yk
    · go_wp2_with fail
      exact bodyPost_ret (v := .tuple #[.agg #[.int .i64 0, .int .i64 0, .int .i64 0, .int .i64 0, .int .i64 0, .int .i64 0, .int .i64 0, .int .i64 0, .bool false], .int .i64 0, .int .i64 10]) (by simp [results, Tryz.results20, go_sem, p0, p1, p2, p3, p4, p5, p6, p7, p8]) rfl ⟨rfl, set9_below B5 (Nat.le_refl _) _ _ _ _ _ _ _ _ _⟩
    · go_wp2_with fail
      exact bodyPost_ret (v := .tuple #[.agg #[.int .i64 y0, .int .i64 y1, .int .i64 y2, .int .i64 y3, .int .i64 y4, .int .i64 y5, .int .i64 y6, .int .i64 y7, .bool yb], .int .i64 2, .int .i64 0]) (by simp [results, Tryz.results20, go_sem, p0, p1, p2, p3, p4, p5, p6, p7, p8]) rfl ⟨rfl, set9_below B5 (Nat.le_refl _) _ _ _ _ _ _ _ _ _⟩
  · generalize hW5 : (((((((((w4.setCell ⟨w3.heap.size, 0, none⟩ (.int .i64 y0)).setCell ⟨w3.heap.size, 1, none⟩ (.int .i64 y1)).setCell ⟨w3.heap.size, 2, none⟩ (.int .i64 y2)).setCell ⟨w3.heap.size, 3, none⟩ (.int .i64 y3)).setCell ⟨w3.heap.size, 4, none⟩ (.int .i64 y4)).setCell ⟨w3.heap.size, 5, none⟩ (.int .i64 y5)).setCell ⟨w3.heap.size, 6, none⟩ (.int .i64 y6)).setCell ⟨w3.heap.size, 7, none⟩ (.int .i64 y7)).setCell ⟨w3.heap.size, 8, none⟩ (.bool yb)) = W5 at *
    have z03' : w.heap.size < w3.heap.size := z03
    have b45 : Below w3.heap.size w4 W5 := by rw [← hW5]; exact set9_below (Below.refl _ _) (Nat.le_refl _) _ _ _ _ _ _ _ _ _
    have B5 : Below w.heap.size w W5 := (c3.drew.trans (B1.mono c3.size)).trans (b45.mono c3.size)
    have hIX : InsAt w4 w3.heap.size zeroF := ⟨⟨P0, P1, P2, P3, P4, P5, P6, P7, P8⟩, Q0, Q1, Q2, Q3, Q4, Q5, Q6, Q7, Q8⟩
    clear P0 P1 P2 P3 P4 P5 P6 P7 P8 Q0 Q1 Q2 Q3 Q4 Q5 Q6 Q7 Q8
    obtain ⟨⟨r0, r1, r2, r3, r4, r5, r6, r7, r8⟩, _⟩ := st9 hIX ⟨y0, y1, y2, y3, y4, y5, y6, y7, yb⟩ W5 hW5
    obtain ⟨⟨p0, p1, p2, p3, p4, p5, p6, p7, p8⟩, q0, q1, q2, q3, q4, q5, q6, q7, q8⟩ := ((i3.out.drew.below B1 z03).below b45 z03')
    simp only at p0 p1 p2 p3 p4 p5 p6 p7 p8
    simp only at r0 r1 r2 r3 r4 r5 r6 r7 r8
    have hne : ¬ w.heap.size = w3.heap.size := by omega
    have hne' : ¬ w3.heap.size = w.heap.size := by omega
    clear hW5 hc3 hd3 hc4 hd4 k0 k1 i3 hIX b45
    generalize w3.heap.size = X at *
    cases yk
    · go_wp2_with fail
      exact bodyPost_ret (v := .tuple #[.agg #[.int .i64 0, .int .i64 0, .int .i64 0, .int .i64 0, .int .i64 0, .int .i64 0, .int .i64 0, .int .i64 0, .bool false], .int .i64 0, .int .i64 10]) (by simp [results, Tryz.results20, go_sem, p0, p1, p2, p3, p4, p5, p6, p7, p8]) rfl ⟨rfl, set9_below B5 (Nat.le_refl _) _ _ _ _ _ _ _ _ _⟩
    · go_wp2_with fail
      exact bodyPost_ret (v := .tuple #[.agg #[.int .i64 y0, .int .i64 y1, .int .i64 y2, .int .i64 y3, .int .i64 y4, .int .i64 y5, .int .i64 y6, .int .i64 y7, .bool yb], .int .i64 2, .int .i64 0]) (by simp [results, Tryz.results20, go_sem, p0, p1, p2, p3, p4, p5, p6, p7, p8]) rfl ⟨rfl, set9_below B5 (Nat.le_refl _) _ _ _ _ _ _ _ _ _⟩
end Go.Proofs.YtnpfihlaocpcfaaGreatDoor
/- For the seat: the reference's Ror and Expand. -/
namespace Go.Proofs.YtnpfihlaocpcfaaGreatDoor
open Go.Sx Go.ChangeShapes Go.WideShapes Go.RowKit Go.Joins Go.Deep

/-- Turned right, step by step. -/
def rorR : Nat → Int → Int
  | 0, y => y
  | i + 1, y => rorR i (bits .or .u32 (y / 2) (y * 2147483648 % 4294967296))

set_option maxRecDepth 100000 in
set_option maxHeartbeats 1000000 in
theorem rorR_any (x : Int) (N : Nat) (hN : N < 32) (w : World) :
    Calls Tryz.prog 115 #[.int .u32 x, .int .i64 N] w fun e w' => e = .returned (.int .u32 (rorR N x)) ∧ Below w.heap.size w w' := by
  have e1 : Int.tmod (N : Int) 32 = N := by rw [Int.tmod_eq_emod_of_nonneg (by omega)]; omega
  have e2 : decide ((N : Int) < 0) = false := decide_eq_false (by omega)
  generalize hR : rorR N x = R
  go_enter Tryz.func115, Tryz.ntmps115
  go_wp2
  go_loopw [0, 1] (fun a b wr => ∃ (i : Nat) (y : Int), i ≤ N ∧ b = .int .i64 i ∧ a = .int .u32 y ∧ R = rorR i y ∧ Below w.heap.size w wr) (fun _ b _ => (intOf b).toNat)
  case atStart => exact ⟨N, x, Nat.le_refl _, rfl, rfl, hR.symm, Below.refl _ _⟩
  case round =>
    obtain ⟨i, y, hi, rfl, rfl, hr, hbr⟩ := hrel
    by_cases hlt : 0 < i
    · have e3 : decide ((0 : Int) < (i : Int)) = true := decide_eq_true (by omega)
      have e4 : IntKind.i64.wrap ((i : Int) - 1) = (i : Int) - 1 := IntWalk.i64_in _ (by omega)
      go_wp2
      go_roundw
      case rel =>
        obtain ⟨j, rfl⟩ : ∃ j, i = j + 1 := ⟨i - 1, by omega⟩
        exact ⟨j, _, by omega, by go_num, rfl, hr, hbr⟩
      case measure => simp [intOf]; omega
    · have e : i = 0 := by omega
      subst e
      have e3 : decide ((0 : Int) < ((0 : Nat) : Int)) = false := rfl
      have hr' : R = y := hr
      subst hr'
      clear hr hR
      go_wp2
      exact bodyPost_ret (results_tmp rfl _ _ _) rfl ⟨rfl, hbr⟩

/-- The number of twelve bits, as the reference has it. -/
def expR2 (x : Int) : Int :=
  if x % 4096 / 256 = 0 then x % 4096 % 256 else if x % 4096 / 256 = 1 then bits .or .u32 (x % 256 * 65536) (x % 256) else
  if x % 4096 / 256 = 2 then bits .or .u32 (x % 256 * 16777216) (x % 256 * 256) else
  if x % 4096 / 256 = 3 then bits .or .u32 (bits .or .u32 (bits .or .u32 (x % 256 * 16777216) (x % 256 * 65536)) (x % 256 * 256)) (x % 256) else
  rorR (x % 4096 / 128).toNat (x % 128 + 128)

set_option maxRecDepth 100000 in
set_option maxHeartbeats 1000000 in
theorem expR_any (x : Int) (w : World) :
    Calls Tryz.prog 71 #[.int .i64 x] w fun e w' => e = .returned (.int .u32 (expR2 x)) ∧ Below w.heap.size w w' := by
  generalize hE : expR2 x = E
  unfold expR2 at hE
  have hC : ∀ w', Calls Tryz.prog 115 #[.int .u32 (x % 128 + 128), .int .i64 (x % 4096 / 128)] w' fun e w'' => e = .returned (.int .u32 (rorR (x % 4096 / 128).toNat (x % 128 + 128))) ∧ Below w'.heap.size w' w'' := by
    intro w'
    have := rorR_any (x % 128 + 128) (x % 4096 / 128).toNat (by omega) w'
    rwa [Int.toNat_of_nonneg (by omega)] at this
  by_cases h0 : x % 4096 / 256 = 0
  · have f0 : (x % 4096 / 256 == 0) = true := beq_iff_eq.2 h0
    rw [if_pos h0] at hE
    subst hE
    clear h0 hC
    go_enter Tryz.func71, Tryz.ntmps71
    go_wp2
    exact bodyPost_ret (results_tmp rfl _ _ _) rfl ⟨rfl, Below.refl _ _⟩
  have f0 : (x % 4096 / 256 == 0) = false := beq_eq_false_iff_ne.2 h0
  by_cases h1 : x % 4096 / 256 = 1
  · have f1 : (x % 4096 / 256 == 1) = true := beq_iff_eq.2 h1
    rw [if_neg h0] at hE
    rw [if_pos h1] at hE
    subst hE
    clear h0 h1 hC
    go_enter Tryz.func71, Tryz.ntmps71
    go_wp2
    exact bodyPost_ret (results_tmp rfl _ _ _) rfl ⟨rfl, Below.refl _ _⟩
  have f1 : (x % 4096 / 256 == 1) = false := beq_eq_false_iff_ne.2 h1
  by_cases h2 : x % 4096 / 256 = 2
  · have f2 : (x % 4096 / 256 == 2) = true := beq_iff_eq.2 h2
    rw [if_neg h0] at hE
    rw [if_neg h1] at hE
    rw [if_pos h2] at hE
    subst hE
    clear h0 h1 h2 hC
    go_enter Tryz.func71, Tryz.ntmps71
    go_wp2
    exact bodyPost_ret (results_tmp rfl _ _ _) rfl ⟨rfl, Below.refl _ _⟩
  have f2 : (x % 4096 / 256 == 2) = false := beq_eq_false_iff_ne.2 h2
  by_cases h3 : x % 4096 / 256 = 3
  · have f3 : (x % 4096 / 256 == 3) = true := beq_iff_eq.2 h3
    rw [if_neg h0] at hE
    rw [if_neg h1] at hE
    rw [if_neg h2] at hE
    rw [if_pos h3] at hE
    subst hE
    clear h0 h1 h2 h3 hC
    go_enter Tryz.func71, Tryz.ntmps71
    go_wp2
    exact bodyPost_ret (results_tmp rfl _ _ _) rfl ⟨rfl, Below.refl _ _⟩
  have f3 : (x % 4096 / 256 == 3) = false := beq_eq_false_iff_ne.2 h3
  rw [if_neg h0, if_neg h1, if_neg h2, if_neg h3] at hE
  clear h0 h1 h2 h3
  generalize rorR (x % 4096 / 128).toNat (x % 128 + 128) = R at hC hE
  subst hE
  go_enter Tryz.func71, Tryz.ntmps71
  go_wp2_with fail
  ((with_reducible refine (hC _).mono ?_); rintro e w3 ⟨rfl, hb⟩)
  go_wp2
  exact bodyPost_ret (results_tmp rfl _ _ _) rfl ⟨rfl, hb⟩


set_option maxRecDepth 100000 in
/-- The low bits of a number. -/
theorem and_low (x : Int) {s : Nat} (hs : s < 63) : bitsOp .i64 (fun a b => a &&& b) x (.ofNat (2 ^ s - 1)) = x % 2 ^ s := by
  have hp : (0 : Int) < 2 ^ s := Int.pow_pos (by omega)
  have m0 := Int.emod_nonneg x (Int.ne_of_gt hp)
  have m1 := Int.emod_lt_of_pos x hp
  have hn : (2 : Nat) ^ s < 2 ^ 63 := Nat.pow_lt_pow_right (by omega) hs
  have hn2 : ((2 : Int) ^ s) < 2 ^ 63 := by exact_mod_cast hn
  refine (eq_of_has (k := .i64) (has64 (by omega) (by omega)) (bitsOp_has _ _ _ _) fun i hi => ?_).symm
  rw [andF_bit _ _ _ hi, low_bit]
  by_cases his : i < s
  · rw [bitI_emod _ _ _ his]; simp [his]
  · rw [bitI_high _ s i (by omega) m1 (by omega)]
    simp [his]; omega

set_option maxRecDepth 100000 in
theorem shr_div (y : Int) (c : Nat) (hc : c < 64) : shrOp .i64 y (.ofNat c) = y / 2 ^ c := by
  have hb : IntKind.i64.bits = 64 := rfl
  unfold shrOp
  rw [show (Int.ofNat c).toNat = c from rfl, hb, Nat.min_eq_left (by omega), Int.fdiv_eq_ediv_of_nonneg _ (Int.le_of_lt (Int.pow_pos (by omega)))]

set_option maxRecDepth 100000 in
theorem and_low' {x y : Int} {s : Nat} (hs : s < 63) (h : x % 2 ^ s = y % 2 ^ s) : bitsOp .i64 (fun a b => a &&& b) x (.ofNat (2 ^ s - 1)) = bitsOp .i64 (fun a b => a &&& b) y (.ofNat (2 ^ s - 1)) := by
  rw [and_low _ hs, and_low _ hs, h]

set_option maxRecDepth 100000 in
theorem expT_low (x : Int) : (ex.expT.den (envOf F [.int x])) = (ex.expT.den (envOf F [.int (x % 4096)])) := by
  have a1 : (ex.and ex.x0 255).den (envOf F [.int x]) = (ex.and ex.x0 255).den (envOf F [.int (x % 4096)]) :=
    congrArg Sc.int (and_low' (x := x) (y := x % 4096) (s := 8) (by omega) (by omega))
  have a2 : ex.top.den (envOf F [.int x]) = ex.top.den (envOf F [.int (x % 4096)]) :=
    congrArg Sc.int (and_low' (x := shrOp .i64 x (.ofNat 8)) (y := shrOp .i64 (x % 4096) (.ofNat 8)) (s := 4) (by omega) (by rw [shr_div _ _ (by omega), shr_div _ _ (by omega)]; omega))
  have a3 : (ex.and (.op2 (.shr .i64) ex.x0 (.num 7)) 31).den (envOf F [.int x]) = (ex.and (.op2 (.shr .i64) ex.x0 (.num 7)) 31).den (envOf F [.int (x % 4096)]) :=
    congrArg Sc.int (and_low' (x := shrOp .i64 x (.ofNat 7)) (y := shrOp .i64 (x % 4096) (.ofNat 7)) (s := 5) (by omega) (by rw [shr_div _ _ (by omega), shr_div _ _ (by omega)]; omega))
  generalize envOf F [.int x] = η at a1 a2 a3
  generalize envOf F [.int (x % 4096)] = η' at a1 a2 a3
  simp only [ex.expT, ex.is, ex.b, ex.c, ex.k, ex.by', Tm.den, a1, a2, a3]

set_option maxRecDepth 100000 in
theorem expR2_low (x : Int) : expR2 x = expR2 (x % 4096) := by
  unfold expR2
  rw [show x % 4096 % 4096 = x % 4096 by omega, show x % 4096 % 128 = x % 128 by omega, show x % 4096 % 256 = x % 256 by omega]

set_option maxRecDepth 100000 in
theorem exp_law : ((List.range 4096).all fun m => expR2 (m : Int) == (ex.expT.den (envOf F [.int (m : Int)])).asInt) = true := by kernel_rfl

set_option maxRecDepth 100000 in
theorem expR2_eq (x : Int) : expR2 x = (ex.expT.den (envOf F [.int x])).asInt := by
  rw [expR2_low, expT_low]
  obtain ⟨m, hm⟩ := Int.eq_ofNat_of_zero_le (Int.emod_nonneg x (show (4096 : Int) ≠ 0 by omega))
  have h := List.all_eq_true.1 exp_law m (List.mem_range.2 (by omega))
  rw [hm]
  exact eq_of_beq h

set_option maxRecDepth 100000 in
theorem callOk_of {ρ : Env} {G : Globs} {P : Program} {f : FuncId} {args : List SVal} {v : SVal}
    (h : ∀ (ι : Nm) (w : World), Calls P f (args.map (·.conc ρ ι)).toArray w fun e w' => e = .returned (v.conc ρ ι) ∧ Below w.heap.size w w') (hv : v.sc 0 = true) : CallOk ρ G P f args [] ⟨v, [], .bit true⟩ :=
  fun _ _ ι w H _ => (h ι w).mono fun _ _ ⟨he, hb⟩ => ⟨ι, Nm.Ext.refl _ _, Nat.le_refl _, H.under hb, hv, rfl, he⟩

set_option maxRecDepth 100000 in
theorem expR_call {ρ : Env} (V : VarsOk ρ) (hF : ρ.f 920 = F1 920) : ∀ args h pc x, (pc.den ρ).asBool = true → (specR ex.pat1 ex.expR args h pc).get ρ = some x → CallOk ρ cx.globs cx.P 71 args h x := by
  refine specR_ok V globsC rfl (by intro u hu; simp [ex.pat1, SVal.toList] at hu; subst hu; rfl) (fun _ => rfl) ?_
  intro L hL hp
  match L, hL with
  | [s], _ =>
    refine ⟨envOf F [.int s.asInt], ⟨.int .u32 ex.expT, [], .bit true⟩, rfl, callOk_of (fun ι w => ?_) rfl, fun ι => rfl, ?_⟩
    · have h := expR_any s.asInt w
      rw [expR2_eq] at h
      exact h
    · intro t ι ι' ht
      simp only [SVal.conc, ex.expR, Tm.den, ht, hF]
      rfl

set_option maxRecDepth 100000 in
theorem valT_eq (x : Int) : (ex.valT.den (envOf F [.int x])).asBool = (decide (0 ≤ x) && (decide (x < 4096) && ((x / 256 == 0) || (decide (3 < x / 256) || !(x % 256 == 0))))) := by
  have e1 : shrOp .i64 x (.ofNat 8) = x / 256 := shr_div x 8 (by omega)
  have e2 : bitsOp .i64 (fun a b => a &&& b) x (.ofNat (2 ^ 8 - 1)) = x % 256 := and_low x (s := 8) (by omega)
  have : (ex.valT.den (envOf F [.int x])).asBool = (decide (0 ≤ x) && (decide (x < 4096) && ((shrOp .i64 x (.ofNat 8) == 0) || (decide (3 < shrOp .i64 x (.ofNat 8)) || !(bitsOp .i64 (fun a b => a &&& b) x (.ofNat (2 ^ 8 - 1)) == 0))))) := rfl
  rw [this, e1, e2]

set_option maxRecDepth 100000 in
set_option maxHeartbeats 1000000 in
theorem valR_any (x : Int) (w : World) :
    Calls Tryz.prog 70 #[.int .i64 x] w fun e w' => e = .returned (.bool (ex.valT.den (envOf F [.int x])).asBool) ∧ Below w.heap.size w w' := by
  generalize hV : (ex.valT.den (envOf F [.int x])).asBool = V
  rw [valT_eq] at hV
  have hV' : Hid ((decide (0 ≤ x) && (decide (x < 4096) && ((x / 256 == 0) || (decide (3 < x / 256) || !(x % 256 == 0))))) = V) := Lib.hid hV
  clear hV
  by_cases h0 : 0 ≤ x
  · have f0 : decide (x < 0) = false := decide_eq_false (by omega)
    have f0' : decide (0 ≤ x) = true := decide_eq_true h0
    have e1 : Int.tdiv x 256 = x / 256 := Int.tdiv_eq_ediv_of_nonneg h0
    have e2 : Int.tmod x 256 = x % 256 := Int.tmod_eq_emod_of_nonneg h0
    go_enter Tryz.func70, Tryz.ntmps70
    go_wp2
    all_goals (refine bodyPost_ret (results_tmp rfl _ _ _) rfl ⟨?_, Below.refl _ _⟩)
    · show Ending.returned (Value.bool (!(x % 256 == 0))) = _
      rw [← hV'.out, f0', decide_eq_true (show x < 4096 by omega), beq_eq_false_iff_ne.2 (show x / 256 ≠ 0 by omega), decide_eq_false (show ¬ 3 < x / 256 by omega)]
      simp
    · show Ending.returned (Value.bool true) = _
      rw [← hV'.out, f0', decide_eq_true (show x < 4096 by omega), decide_eq_true (show 3 < x / 256 by omega)]
      simp
    · show Ending.returned (Value.bool true) = _
      rw [← hV'.out, f0', decide_eq_true (show x < 4096 by omega), beq_iff_eq.2 (show x / 256 = 0 by omega)]
      simp
    · show Ending.returned (Value.bool false) = _
      rw [← hV'.out, f0', decide_eq_false (show ¬ x < 4096 by omega)]
      simp
  · have f0 : decide (x < 0) = true := decide_eq_true (by omega)
    have f0' : decide (0 ≤ x) = false := decide_eq_false h0
    go_enter Tryz.func70, Tryz.ntmps70
    go_wp2
    refine bodyPost_ret (results_tmp rfl _ _ _) rfl ⟨?_, Below.refl _ _⟩
    show Ending.returned (Value.bool false) = _
    rw [← hV'.out, f0']
    simp

set_option maxRecDepth 100000 in
theorem valR_call {ρ : Env} (V : VarsOk ρ) (hF : ρ.f 921 = F1 921) : ∀ args h pc x, (pc.den ρ).asBool = true → (specR ex.pat1 ex.valR args h pc).get ρ = some x → CallOk ρ cx.globs cx.P 70 args h x := by
  refine specR_ok V globsC rfl (by intro u hu; simp [ex.pat1, SVal.toList] at hu; subst hu; rfl) (fun _ => rfl) ?_
  intro L hL hp
  match L, hL with
  | [s], _ =>
    refine ⟨envOf F [.int s.asInt], ⟨.bool ex.valT, [], .bit true⟩, rfl, callOk_of (fun ι w => valR_any s.asInt w) rfl, fun ι => rfl, ?_⟩
    intro t ι ι' ht
    simp only [SVal.conc, ex.valR, Tm.den, ht, hF]
    rfl

/-- An instruction without operation is refused at once. -/
def chkR0 (t : Tm) : SVal := match t with
  | .cons (.num 0) _ => .int .i64 (.num 6)
  | t => chkR t

set_option maxRecDepth 100000 in
theorem chk_call0 {f : Nat} (A : chk.All f) {ρ : Env} (V : VarsOk ρ) (hF : Signs ρ.f) : ∀ args h pc x, (pc.den ρ).asBool = true → (specR chkPat chkR0 args h pc).get ρ = some x → CallOk ρ cx.globs cx.P f args h x := by
  refine specR_ok V globsC rfl (by intro u hu; simp [chkPat, SVal.toList] at hu; subst hu; rfl) (fun t => by unfold chkR0; split <;> rfl) ?_
  intro L hL hp
  match L, hL with
  | [s0, s1, s2, s3, s4, s5, s6, s7, s8], _ =>
    obtain ⟨⟨p0, p1, p2, p3, p4, p5, p6, p7, _⟩, _⟩ := hp
    let x : Fields := ⟨s0.asInt, s1.asInt, s2.asInt, s3.asInt, s4.asInt, s5.asInt, s6.asInt, s7.asInt, s8.asBool⟩
    obtain ⟨x', hc, hv⟩ := chk_all A (x := x) ⟨p0, p1, p2, p3, p4, p5, p6, p7⟩
    refine ⟨envOf F x.scs, x', rfl, hc, fun ι => rfl, ?_⟩
    intro t ι ι' ht
    rw [hv ι']
    unfold chkR0
    split
    · have e0 : s0 = .int 0 := by
        simp only [Tm.den, Sc.asList, List.cons.injEq] at ht
        exact ht.1.symm
      subst e0
      rfl
    · simp only [SVal.conc, chkR, Tm.den, ht, hF.s901]
      exact congrArg _ (chk_norm s0 s1 s2 s3 s4 s5 s6 s7 s8)

end Go.Proofs.YtnpfihlaocpcfaaGreatDoor
/- For the seat: the reference's count of a list's registers. -/
namespace Go.Proofs.YtnpfihlaocpcfaaGreatDoor
open Go.Sx Go.ChangeShapes Go.WideShapes Go.RowKit Go.Joins Go.Deep

/-- The ones of some bits, from a place on. -/
def onesR : Nat → Nat → Nat → List Int
  | 0, _, _ => []
  | k + 1, i, m => if (m % 2 == 1) = true then (i : Int) :: onesR k (i + 1) (m / 2) else onesR k (i + 1) (m / 2)

set_option maxRecDepth 100000 in
theorem onesR_len : ∀ k i m, (onesR k i m).length = Ones.popN k m
  | 0, _, _ => rfl
  | k + 1, i, m => by
    have h := onesR_len k (i + 1) (m / 2)
    unfold onesR Ones.popN
    split
    · rename_i h1
      have := eq_of_beq h1
      rw [List.length_cons, h]; omega
    · rename_i h1
      have h2 : ¬ m % 2 = 1 := fun e => h1 (beq_iff_eq.2 e)
      rw [h]; omega

set_option maxRecDepth 100000 in
theorem onesR_le : ∀ k i m, (onesR k i m).length ≤ k
  | 0, _, _ => Nat.le_refl _
  | k + 1, i, m => by
    have h := onesR_le k (i + 1) (m / 2)
    unfold onesR
    split
    · rw [List.length_cons]; omega
    · omega

set_option maxRecDepth 100000 in
set_option maxHeartbeats 1000000 in
theorem hasR_any (n i : Nat) (hi : i < 16) (w : World) :
    Calls Tryz.prog 139 #[.int .i64 n, .int .i64 i] w fun e w' => e = .returned (.bool (n / 2 ^ i % 2 == 1)) ∧ w' = w := by
  have hb : (bits BinOp.and IntKind.i64 ((n : Int) / 2 ^ i) 1 == 1) = (n / 2 ^ i % 2 == 1) := by
    have h1 : bits BinOp.and IntKind.i64 ((n : Int) / 2 ^ i) 1 = ((n : Int) / 2 ^ i) % 2 := and_low _ (s := 1) (by omega)
    have h2 : ((n : Int) / 2 ^ i) % 2 = ((n / 2 ^ i % 2 : Nat) : Int) := by push_cast; rfl
    rw [h1, h2]
    generalize n / 2 ^ i % 2 = q
    cases h : (q == 1) with
    | true => have := eq_of_beq h; subst this; rfl
    | false => have := beq_eq_false_iff_ne.1 h; exact beq_eq_false_iff_ne.2 (by omega)
  generalize (n / 2 ^ i % 2 == 1) = V at hb
  go_enter Tryz.func139, Tryz.ntmps139
  go_wp2
  exact bodyPost_ret (results_tmp rfl _ _ _) rfl ⟨by rw [← hb]; rfl, rfl⟩

set_option maxRecDepth 100000 in
set_option maxHeartbeats 1000000 in
theorem allR_any (n : Nat) (w : World) :
    Calls Tryz.prog 114 #[.int .i64 n] w fun e w' => ∃ A cap, e = .returned (.slice A (onesR 16 0 n).length cap) ∧ Below w.heap.size w w' := by
  go_enter Tryz.func114, Tryz.ntmps114
  generalize hL : onesR 16 0 n = L
  go_wp2
  go_loopw [3, 4] (fun v k wr => ∃ (i : Nat) (pre : List Int), k = .int .i64 i ∧ i ≤ 16 ∧ L = pre ++ onesR (16 - i) i (n / 2 ^ i) ∧ pre.length ≤ i ∧ wr.ownsRow w.heap.size 3 1 v pre.length (encI pre) ∧ Below w.heap.size w wr) (fun _ k _ => 16 - (intOf k).toNat)
  case atStart => exact ⟨0, [], rfl, by omega, by rw [← hL]; simp, Nat.zero_le _, World.ownsRow_nil _ _ _ _, Below.refl _ _⟩
  case round =>
    obtain ⟨i, pre, rfl, hi, hp, hpl, hown, hbr⟩ := hrel
    by_cases hlt : i < 16
    · have e1 : decide ((i : Int) < 16) = true := decide_eq_true (by omega)
      have hadd : IntKind.i64.wrap ((i : Int) + 1) = (i : Int) + 1 := IntWalk.i64_in _ (by omega)
      obtain ⟨k, hk⟩ : ∃ k, 16 - i = k + 1 := ⟨15 - i, by omega⟩
      have hk2 : 16 - (i + 1) = k := by omega
      have hdiv : n / 2 ^ i / 2 = n / 2 ^ (i + 1) := by rw [Nat.div_div_eq_div_mul, Nat.pow_succ]
      rw [hk] at hp
      unfold onesR at hp
      rw [hdiv] at hp
      have hH := hasR_any n i hlt wr
      cases hb : (n / 2 ^ i % 2 == 1) with
      | true =>
        rw [hb] at hH
        rw [if_pos hb] at hp
        have HP := Lib.hid hp
        clear hp hb
        go_wp2_with fail
        ((with_reducible refine hH.mono ?_); rintro e w3 ⟨rfl, rfl⟩)
        go_wp2_with (at_builtin; refine app_int w3 rfl _ _ rfl w.heap.size hbr.size pre (i : Int) (by omega) _ rfl ?_ _ rfl rfl ?_; exact hown; intro v2 w2 hown2 hb2)
        refine ⟨⟨i + 1, pre ++ [(i : Int)], by go_num, by omega, ?_, by rw [List.length_append]; show pre.length + 1 ≤ i + 1; omega, hown2, hbr.trans hb2⟩, ?_⟩
        · rw [HP.out, hk2, List.append_assoc]; rfl
        · simp [intOf]; omega
      | false =>
        rw [hb] at hH
        rw [if_neg (by rw [hb]; exact Bool.false_ne_true)] at hp
        have HP := Lib.hid hp
        clear hp hb
        go_wp2_with fail
        ((with_reducible refine hH.mono ?_); rintro e w3 ⟨rfl, rfl⟩)
        go_wp2
        go_roundw
        case rel => exact ⟨i + 1, pre, by go_num, by omega, by rw [hk2]; exact HP.out, by omega, hown, hbr⟩
        case measure => simp [intOf]; omega
    · have hi16 : i = 16 := by omega
      subst hi16
      have e1 : decide (((16 : Nat) : Int) < 16) = false := rfl
      have hfin : L = pre := by rw [hp]; exact List.append_nil _
      clear hp
      go_wp2_with fail
      rw [hfin]
      obtain ⟨A, cap, rfl, hA, hc⟩ := own_out hown
      exact bodyPost_ret (results_tmp rfl _ _ _) rfl ⟨A, cap, rfl, hbr⟩

set_option maxRecDepth 100000 in
set_option maxHeartbeats 1000000 in
theorem countR_any (n : Nat) (hn : n < 65536) (w : World) :
    Calls Tryz.prog 66 #[.int .i64 n] w fun e w' => e = .returned (.int .i64 (popI n)) ∧ Below w.heap.size w w' := by
  have hH := allR_any n w
  rw [Ones.popI_small n hn, ← onesR_len 16 0 n]
  generalize onesR 16 0 n = L at hH
  go_enter Tryz.func66, Tryz.ntmps66
  go_wp2_with fail
  ((with_reducible refine hH.mono ?_); rintro e w3 ⟨A, cap, rfl, hb3⟩)
  go_wp2
  exact bodyPost_ret (results_tmp rfl _ _ _) rfl ⟨rfl, hb3⟩

def cntCond (ts : List Tm) : List Tm := [.op2 .le (.num 0) (ts.getD 0 (.num 0)), .op2 .le (ts.getD 0 (.num 0)) (.num 65535)]

set_option maxRecDepth 100000 in
theorem countR_call {ρ : Env} (V : VarsOk ρ) (hF : ρ.f 900 = F 900) : ∀ args h pc x, (pc.den ρ).asBool = true → (specC ex.pat1 cntCond popR args h pc).get ρ = some x → CallOk ρ cx.globs cx.P 66 args h x := by
  refine specC_ok V globsC rfl (by intro u hu; simp [ex.pat1, SVal.toList] at hu; subst hu; rfl) (fun _ => rfl) ?_
  intro ts hl hp hc
  match ts, hl with
  | [t], _ =>
    have c1 : 0 ≤ (t.den ρ).asInt := of_decide_eq_true (hc (.op2 .le (.num 0) t) (by simp [cntCond]))
    have c2 : (t.den ρ).asInt ≤ 65535 := of_decide_eq_true (hc (.op2 .le t (.num 65535)) (by simp [cntCond]))
    obtain ⟨n, hn⟩ := Int.eq_ofNat_of_zero_le c1
    have hn16 : n < 65536 := by omega
    refine ⟨envOf F0 [.int (n : Int)], ⟨.int .i64 (.num (popI (n : Int))), [], .bit true⟩, rfl, callOk_of (fun ι w => countR_any n hn16 w) rfl, ?_, ?_⟩
    · intro ι
      simp only [ex.pat1, SVal.concL, SVal.conc, Tm.den, envOf, envA, envA, List.map_cons, List.map_nil, List.getD_cons_zero, Sc.asInt_int, hn]
    · intro u ι ι' hu
      simp only [SVal.conc, popR, Tm.den, hu, hF]
      have : F 900 [t.den ρ] = .int (popI (n : Int)) := by
        show Sc.int (popI (t.den ρ).asInt) = _
        rw [hn]
      simp only [List.map_cons, List.map_nil]
      rw [this]

/-- What the reference's walks know: the reference's Expand, Valid, Count too; its Check refuses at once what has no operation. -/
def widR : Specs := fun f => match Nat.beq f 71 with
  | true => some (specR ex.pat1 ex.expR)
  | false => match Nat.beq f 70 with
    | true => some (specR ex.pat1 ex.valR)
    | false => match Nat.beq f 42 with
      | true => some (specR chkPat chkR0)
      | false => match Nat.beq f 66 with
        | true => some (specC ex.pat1 cntCond popR)
        | false => widS f

set_option maxRecDepth 100000 in
theorem widR_ok {ρ : Env} (V : VarsOk ρ) (hF : ρ.f = F2) : widR.Ok ρ cx := by
  intro f sp h
  simp only [widR] at h
  split at h
  · rename_i hf
    have := Nat.eq_of_beq_eq_true hf
    subst this
    simp only [Option.some.injEq] at h
    subst h
    exact expR_call V (by rw [hF]; rfl)
  · split at h
    · rename_i hf
      have := Nat.eq_of_beq_eq_true hf
      subst this
      simp only [Option.some.injEq] at h
      subst h
      exact valR_call V (by rw [hF]; rfl)
    · split at h
      · rename_i hf
        have := Nat.eq_of_beq_eq_true hf
        subst this
        simp only [Option.some.injEq] at h
        subst h
        exact chk_call0 chk.all_r V (by rw [hF]; exact F2_signs)
      · split at h
        · rename_i hf
          have := Nat.eq_of_beq_eq_true hf
          subst this
          simp only [Option.some.injEq] at h
          subst h
          exact countR_call V (by rw [hF]; rfl)
        · exact widS_ok V hF f sp h

set_option maxRecDepth 100000 in
theorem widR_body : ∀ f, widR f ≠ none → ∃ fn c, cx.P.funcs[f]? = some fn ∧ fn.body = some c := by
  intro f h
  simp only [widR] at h
  split at h
  · rename_i hf
    have := Nat.eq_of_beq_eq_true hf
    subst this
    exact ⟨_, _, Tryz.func71, rfl⟩
  · split at h
    · rename_i hf
      have := Nat.eq_of_beq_eq_true hf
      subst this
      exact ⟨_, _, Tryz.func70, rfl⟩
    · split at h
      · rename_i hf
        have := Nat.eq_of_beq_eq_true hf
        subst this
        exact ⟨_, _, Tryz.func42, rfl⟩
      · split at h
        · rename_i hf
          have := Nat.eq_of_beq_eq_true hf
          subst this
          exact ⟨_, _, Tryz.func66, rfl⟩
        · exact widS_body f h
end Go.Proofs.YtnpfihlaocpcfaaGreatDoor
/- For the seat: halfwords that the reference reads as an instruction are those of one of its forms. -/
namespace Go.Proofs.YtnpfihlaocpcfaaGreatDoor
open Go.Sx Go.ChangeShapes Go.WideShapes Go.RowKit Go.Joins Go.Deep

namespace sho
noncomputable def atRP (j : Nat) : Bool := px2 (rd.tree Rd.narT cxs' widR 3000 33 pat (.num 0) (nth j)) knB
end sho
namespace tal
/-- The cases, some more of them parted. -/
def casesQ0 : List Cas :=
  casesP.take 15 ++ (List.range 16).map (fun i => Cb.bits 0 0xFFFF (0xE8B0 + i)) ++ (casesP.drop 16).take 377 ++ (List.range 16).map (fun i => Cb.bits 0 0xFFF0 (0xF300 + 16 * i)) ++ casesP.drop 394
/-- Branches are reckoned by long terms: one of them at a time. -/
def isF (c : Cas) : Bool := match c.sub with
  | [(0, false, .op2 (.or .i64) (.num (.ofNat p)) _)] => Nat.ble 0xF000 p && Nat.ble p 0xF7FF
  | _ => false
def casesQ : List Cas := casesQ0.flatMap fun c => match isF c with
  | true => Cas.mul [c] [Cb.bits 1 0x8000 0, Cb.bits 1 0x9000 0x8000, Cb.bits 1 0xD000 0x9000, Cb.bits 1 0xD000 0xD000]
  | false => [c]
def nthQ (j : Nat) : Cas := casesQ.getD j ⟨[], [], []⟩
set_option maxRecDepth 100000 in
theorem covQ : pxT sgV (anyT (casesQ.map Cas.cond)) knB (fun _ => true) = true := by kernel_rfl
set_option maxRecDepth 100000 in
theorem lenQ : casesQ.length = 733 := by kernel_rfl
noncomputable def atRP (j : Nat) : Bool := px2 (rd.tree Rd.widT cxs' widR 3000 34 pat3 (.var 1) (nthQ j)) knB
end tal

set_option maxRecDepth 100000 in
theorem sho_rr (H : ∀ j : Nat, j < sho.cases.length → sho.atRP j = true) {n : Int} (hn : Hw n) (it : Bool) : ∃ p, DecP 33 [.int .i64 n, .bool it] p ∧ (p.2 = true → Rd.Reads F2 Rd.narT p.1.scs n 0) := by
  have so := sgV_ok (ρ := envOf F2 (scsH n it)) F2_signs rfl
  have S := knBH hn it
  obtain ⟨c, hc, hcond⟩ := cas_cov so S sho.covB
  obtain ⟨j, hj, hjc⟩ := List.getElem_of_mem hc
  have hnth : sho.nth j = c := by simp only [sho.nth, List.getD, List.getElem?_eq_getElem hj, Option.getD_some, hjc]
  have hgo := H j hj
  rw [sho.atRP, hnth] at hgo
  obtain ⟨sg', so', hgo⟩ := px2_ok (ρ := envOf F2 (scsH n it)) F2_signs rfl hgo
  exact rd_ok cxsok' rfl rfl (widR_ok (scsH_ok hn.has it) rfl) widR_body (scsH_ok hn.has it) (by kernel_rfl) (by intro v hv; simp [sho.pat] at hv; rcases hv with rfl | rfl <;> rfl) rfl hcond so' S hgo
    (fun i hi => by match i, hi with | k + 11, _ => rfl) rfl rfl

set_option maxRecDepth 100000 in
theorem tal_rr (H : ∀ j : Nat, j < tal.casesQ.length → tal.atRP j = true) {a b : Int} (ha : Hw a) (hb : Hw b) (it : Bool) : ∃ p, DecP 34 [.int .i64 a, .int .i64 b, .bool it] p ∧ (p.2 = true → Rd.Reads F2 Rd.widT p.1.scs a b) := by
  have so := sgV_ok (ρ := envOf F2 (scsT a b it)) F2_signs rfl
  have S := knBT ha hb it
  obtain ⟨c, hc, hcond⟩ := cas_cov so S tal.covQ
  obtain ⟨j, hj, hjc⟩ := List.getElem_of_mem hc
  have hnth : tal.nthQ j = c := by simp only [tal.nthQ, List.getD, List.getElem?_eq_getElem hj, Option.getD_some, hjc]
  have hgo := H j hj
  rw [tal.atRP, hnth] at hgo
  obtain ⟨sg', so', hgo⟩ := px2_ok (ρ := envOf F2 (scsT a b it)) F2_signs rfl hgo
  exact rd_ok cxsok' rfl rfl (widR_ok (scsT_ok ha.has hb.has it) rfl) widR_body (scsT_ok ha.has hb.has it) (by kernel_rfl) (by intro v hv; simp [tal.pat3] at hv; rcases hv with rfl | rfl | rfl <;> rfl) rfl hcond so' S hgo
    (fun i hi => by match i, hi with | k + 11, _ => rfl) rfl rfl
end Go.Proofs.YtnpfihlaocpcfaaGreatDoor
/- For the seat: a law that answers true and only makes new memory meets its row; arguments: instructions, rows of them, rows of numbers. -/
namespace Go.Proofs.YtnpfihlaocpcfaaGreatDoor
open Go.Sx Go.ChangeShapes Go.WideShapes Go.RowKit Go.Joins Go.Deep

section
variable {H : Type} {enc : TypeId × Value → H}

set_option maxRecDepth 100000 in
theorem trodAll_below {P : Program} (hl : laidOutB P = true) {W W' : World} (hb : Below W.heap.size W W') :
    ∀ {ts : List TypeId} {vs : List Value} {ds : List (DataW H)} {ps : List MemPlace}, (∀ t ∈ ts, P.readableRec t = true ∧ t < P.types.size) →
      DataW.TrodAll enc P W 0 (fun _ => true) true ts vs ds ps → (∀ x ∈ ps, x.block < W.heap.size) → DataW.TrodAll enc P W' 0 (fun b => decide (b < W.heap.size)) true ts vs ds ps
  | [], _, _, _, _, h, _ => by
    obtain ⟨rfl, rfl, rfl⟩ := trodAll_nil h
    exact trodAll_mk0
  | t :: ts, _, _, _, hr, h, hlt => by
    obtain ⟨v, vs, d, ds, p, q, rfl, rfl, rfl, h0, r0⟩ := trodAll_cons h
    have ht := hr t (by simp)
    exact trodAll_cons_mk (Below.trod hl ht.1 ht.2 h0 hb (fun x hx => hlt x (by simp [hx]))) (trodAll_below hl hb (fun u hu => hr u (by simp [hu])) r0 (fun x hx => hlt x (by simp [hx])))

set_option maxRecDepth 100000 in
/-- A law's row: it answers true, and makes new memory alone. -/
theorem law_post {P : Program} (hl : laidOutB P = true) {f : Func} {s : ChangeSpec} {tb : TypeId} {W W' : World} {args : Array Value} {ds gs : List (DataW H)} {before : List MemPlace}
    (hs : s.vars = []) (hr : ∀ t ∈ f.params.toList, P.readableRec t = true ∧ t < P.types.size) (hW : DataW.Whole enc P f.params.toList s.vars false W args.toList ds gs before)
    (hb : Below W.heap.size W W') (ht : f.resultTypes = #[tb]) (hbool : P.underlying tb = some .bool) (hfn : s.fn H ds = { results := [.lit (.bool true)], args := ds }) :
    s.post enc P f false true false false W args (.bool true) W' := by
  have hlt := hW.lt
  have hW' := hW
  obtain ⟨p, q, hA, hV, rfl, _, _⟩ := hW
  rw [hs] at hV
  obtain ⟨rfl, rfl⟩ := trodVars_none hV
  refine ⟨ds, [], p ++ [], [], p, [], hW', ?_, ?_, ?_, ?_, fun h => by cases h⟩
  · rw [List.append_nil, hfn, ht]
    exact trodAll_mk1 (shut_bool hbool true)
  · rw [List.append_nil, hfn]
    exact trodAll_below hl hb hr hA (fun x hx => hlt x (by simp [hx]))
  · rw [List.append_nil, hfn, hs]
    rfl
  · exact hb.frame _

end

set_option maxRecDepth 100000 in
theorem laidOutQ : laidOutB Tryz.prog = true := by kernel_rfl
end Go.Proofs.YtnpfihlaocpcfaaGreatDoor
