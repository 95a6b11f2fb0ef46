/- IsaNames: for every number and every text the law returns true, and the arguments read as before. No condition. -/
import Derived.Test.YtdabbjjnolkelaaBase
import Derived.WalkKit
import Derived.ProofKit
import Derived.OpenShut
namespace Go.Proofs.Ytdabbjjnolkelaa.isaNames
open Go.ChangeShapes Go.WideShapes Go.ChangeAt Go.RowKit Go.Sx
open Go.ChangeMaps (open_string shut_string)

/-! ### Find: both answer the same -/

def pair? : Tree Res → Option (Tm × Tm)
  | .leaf x => match x.v with
    | .tup (.cons (.int .i64 a) (.cons (.bool b) .nil)) => some (a, b)
    | _ => none
  | _ => none

def noApp : Tm → Bool
  | .app _ _ => false
  | .op1 _ a => noApp a
  | .op2 _ a b => noApp a && noApp b
  | .ite c a b => noApp c && noApp a && noApp b
  | .cons a b => noApp a && noApp b
  | _ => true

theorem noApp_den {f f' : Nat → List Sc → Sc} {l : List Sc} (t : Tm) (h : noApp t = true) : t.den (envOf f l) = t.den (envOf f' l) := by
  induction t with
  | op1 o a ih => simp only [noApp] at h; simp [Tm.den, ih h]
  | op2 o a b iha ihb => simp only [noApp, Bool.and_eq_true] at h; simp [Tm.den, iha h.1, ihb h.2]
  | ite c a b ihc iha ihb => simp only [noApp, Bool.and_eq_true] at h; simp only [Tm.den, ihc h.1.1, iha h.1.2, ihb h.2]
  | cons a b iha ihb => simp only [noApp, Bool.and_eq_true] at h; simp [Tm.den, iha h.1, ihb h.2]
  | app g a ih => simp [noApp] at h
  | _ => rfl

noncomputable def r7 : Tree Res := callT cx noS (run cx noS 400) 7 [.str (.var 0)] [] (.bit true)
noncomputable def r8 : Tree Res := callT cx noS (run cx noS 400) 8 [.str (.var 0)] [] (.bit true)
noncomputable def tN : Tm := ((pair? r7).getD (.nil, .nil)).1
noncomputable def tB : Tm := ((pair? r7).getD (.nil, .nil)).2

set_option maxRecDepth 100000 in
theorem r7_pair : (pair? r7).isSome = true := by kernel_rfl
set_option maxRecDepth 100000 in
theorem r8_pair : decide (pair? r8 = pair? r7) = true := by kernel_rfl
set_option maxRecDepth 100000 in
theorem t_plain : (noApp tN && noApp tB) = true := by kernel_rfl

/-- The two signs. -/
noncomputable def F : Nat → List Sc → Sc := fun g l => match g with
  | 0 => tN.den (envOf (fun _ _ => .int 0) l)
  | _ => tB.den (envOf (fun _ _ => .int 0) l)

def findRes (a : Tm) : SVal := .tup (.cons (.int .i64 (.app 0 a)) (.cons (.bool (.app 1 a)) .nil))

theorem pair_get {ρ : Env} {t : Tree Res} {a b : Tm} (h : pair? t = some (a, b)) : ∃ x, t.get ρ = some x ∧ x.v = .tup (.cons (.int .i64 a) (.cons (.bool b) .nil)) := by
  unfold pair? at h
  split at h
  · rename_i x
    split at h
    · rename_i hv
      simp only [Option.some.injEq, Prod.mk.injEq] at h
      obtain ⟨rfl, rfl⟩ := h
      exact ⟨x, rfl, hv⟩
    · cases h
  · cases h

theorem find_call {f : FuncId} {t : Tree Res} {a b : Tm} (ht : t = callT cx noS (run cx noS 400) f [.str (.var 0)] [] (.bit true)) (hr : pair? t = some (a, b)) (ha : noApp a = true) (hb : noApp b = true) (ρ : Env)
    (h0 : ∀ l, ρ.f 0 l = a.den (envOf (fun _ _ => .int 0) l)) (h1 : ∀ l, ρ.f 1 l = b.den (envOf (fun _ _ => .int 0) l)) :
    ∀ args h pc x, (pc.den ρ).asBool = true → (specOf (.cons (.str (.var 0)) .nil) findRes args h pc).get ρ = some x → CallOk ρ cx.globs cx.P f args h x := by
  refine specOf_ok noGlobs rfl (by intro u hu; simp [SVal.toList] at hu; subst hu; rfl) (fun _ => rfl) ?_
  intro L hL
  obtain ⟨x, hx1, hx2⟩ := pair_get (ρ := envOf ρ.f L) hr
  rw [ht] at hx1
  refine ⟨x, call_ok cxok (noS_ok _ _) (noS_body _) rfl hx1, ?_⟩
  intro u ι ι' hu
  rw [hx2]
  simp only [findRes, SVal.conc, SVal.concL, Tm.den, hu, h0, h1]
  rw [noApp_den (f := ρ.f) (f' := fun _ _ => .int 0) a ha, noApp_den (f := ρ.f) (f' := fun _ _ => .int 0) b hb]

theorem plainN : noApp tN = true := by have := t_plain; rw [Bool.and_eq_true] at this; exact this.1
theorem plainB : noApp tB = true := by have := t_plain; rw [Bool.and_eq_true] at this; exact this.2

theorem pair7 : pair? r7 = some (tN, tB) := by
  obtain ⟨p, hp⟩ := Option.isSome_iff_exists.1 r7_pair
  unfold tN tB
  rw [hp]
  rfl
theorem pair8 : pair? r8 = some (tN, tB) := by
  rw [of_decide_eq_true r8_pair]
  exact pair7

def S : Specs := fun f => match f with
  | 7 => some (specOf (.cons (.str (.var 0)) .nil) findRes)
  | 8 => some (specOf (.cons (.str (.var 0)) .nil) findRes)
  | f => awakeS f

theorem S_ok (ρ : Env) (hF : ρ.f = F) : S.Ok ρ cx := by
  intro f sp h
  unfold S at h
  split at h
  · simp only [Option.some.injEq] at h; subst h; exact find_call (t := r7) rfl pair7 plainN plainB ρ (fun l => by rw [hF]; rfl) (fun l => by rw [hF]; rfl)
  · simp only [Option.some.injEq] at h; subst h; exact find_call (t := r8) rfl pair8 plainN plainB ρ (fun l => by rw [hF]; rfl) (fun l => by rw [hF]; rfl)
  · exact awakeS_ok ρ _ sp h

theorem S_body : ∀ f, S f ≠ none → ∃ fn c, cx.P.funcs[f]? = some fn ∧ fn.body = some c := by
  intro f h
  unfold S at h
  split at h
  · exact ⟨Try.f7, _, Try.func7, rfl⟩
  · exact ⟨Try.f8, _, Try.func8, rfl⟩
  · exact awakeS_body _ h

/-! ### The law, in cases -/

def f1 (o : Op2) (k : Int) : Tm := .op2 o (.var 0) (.num k)
def f2 (o : Op2) (k : Int) : Tm := .op2 o (.num k) (.var 0)
def low : List Tm := [f1 .lt 0, f1 .lt 1, .op1 .not (f2 .le 1), .op1 .not (f2 .le 16)]
def high : List Tm := [.op1 .not (f1 .lt 0), f2 .lt 45, .op1 .not (f1 .lt 1), f2 .le 1, .op1 .not (f1 .le 11), f2 .le 16, .op1 .not (f1 .le 19)]

set_option maxRecDepth 100000 in
theorem names_low : isTrue (callT cx S (run cx S 400) 3 [.int .i64 (.var 0), .str (.var 1)] [] (low.foldr mkAnd (.bit true))) = true := by kernel_rfl
set_option maxRecDepth 100000 in
theorem names_high : isTrue (callT cx S (run cx S 400) 3 [.int .i64 (.var 0), .str (.var 1)] [] (high.foldr mkAnd (.bit true))) = true := by kernel_rfl
set_option maxRecDepth 100000 in
theorem names_mid : ((List.range 46).all fun k => isTrue (callT cx S (run cx S 400) 3 [.int .i64 (.num (Int.ofNat k)), .str (.var 1)] [] (.bit true))) = true := by kernel_rfl

noncomputable def env (op : Int) (s : ByteArray) : Env := ⟨fun i => match i with | 0 => .int op | _ => .str s.data.toList, F, fun _ => undef⟩

theorem walk (op : Int) (s : ByteArray) (w : World) : Calls Try.prog 3 #[.int .i64 op, .string s] w fun e w' => e = .returned (.bool true) ∧ Grown w w' := by
  have hstr : Value.string ⟨s.data.toList.toArray⟩ = .string s := rfl
  have key : ∀ pc, (pc.den (env op s)).asBool = true → isTrue (callT cx S (run cx S 400) 3 [.int .i64 (.var 0), .str (.var 1)] [] pc) = true → Calls Try.prog 3 #[.int .i64 op, .string s] w fun e w' => e = .returned (.bool true) ∧ Grown w w' := by
    intro pc hpc hx
    exact law_true (ρ := env op s) cxok rfl (S_ok _ rfl) S_body (by intro v hv; simp at hv; rcases hv with rfl | rfl <;> rfl) hpc hx w
  by_cases h1 : op < 0
  · refine key _ (conj_den _ _ ?_) names_low
    intro t ht
    simp only [low, List.mem_cons, List.not_mem_nil, or_false] at ht
    rcases ht with rfl | rfl | rfl | rfl <;> simp [f1, f2, Tm.den, Op2.ev, Op1.ev, env] <;> omega
  · by_cases h2 : 45 < op
    · refine key _ (conj_den _ _ ?_) names_high
      intro t ht
      simp only [high, List.mem_cons, List.not_mem_nil, or_false] at ht
      rcases ht with rfl | rfl | rfl | rfl | rfl | rfl | rfl <;> simp [f1, f2, Tm.den, Op2.ev, Op1.ev, env] <;> omega
    · obtain ⟨k, rfl⟩ := Int.eq_ofNat_of_zero_le (show 0 ≤ op by omega)
      have hk := List.all_eq_true.1 names_mid k (by simp; omega)
      exact law_true (ρ := env (k : Int) s) cxok rfl (S_ok _ rfl) S_body (by intro v hv; simp at hv; rcases hv with rfl | rfl <;> rfl) rfl hk w

theorem own : ownKnob Try.prog.godebug = none := by kernel_rfl

theorem contract (H : Type) (enc : TypeId × Value → H) (W : World) (base : Nat) (args : Array Value) (ds gs : List (DataW H)) (before : List MemPlace)
    (hval : ∀ (j : Nat) t v, Try.f3.params[j]? = some t → args[j]? = some v → Value.okWide Try.prog W .any base t v)
    (hW : DataW.Whole enc Try.prog Try.f3.params.toList Rows.isaNamesSpec.vars false W args.toList ds gs before) :
    Calls Try.prog 3 args W fun e W' => ∃ v, e = .returned v ∧ Rows.isaNamesSpec.post enc Try.prog Try.f3 false true false false W args v W' := by
  have hW' := hW
  obtain ⟨p, q, hA0, hV, rfl, hfz, hnd⟩ := hW
  have hA : DataW.TrodAll enc Try.prog W 0 (fun _ => true) true Try.f3.params.toList args.toList ds p := hA0
  rw [Try.params3] at hA hval
  obtain ⟨v0, vs0, d0, ds0, p0, q0, hargs, rfl, rfl, h0, r0⟩ := trodAll_cons hA
  obtain ⟨v1, vs1, d1, ds1, p1, q1, hargs1, rfl, rfl, h1, r1⟩ := trodAll_cons r0
  obtain ⟨rfl, rfl, rfl⟩ := trodAll_nil r1
  obtain rfl : args = #[v0, v1] := by cases args; simp_all
  obtain ⟨rfl, rfl⟩ := trodVars_none hV
  obtain ⟨op, rfl, rfl, rfl, w0⟩ := open_int Try.underlying3 (hval 0 3 v0 rfl rfl) h0
  obtain ⟨s, rfl, rfl, rfl, hmax⟩ := open_string Try.underlying9 (hval 1 9 v1 rfl rfl) h1
  clear hA0
  simp only [List.append_nil] at hW'
  refine (walk op s W).mono fun e W' ⟨he, hg⟩ => ?_
  subst he
  exact ⟨_, rfl, post_of_same (pa := []) (pv := []) hW' (fun _ _ _ => trodAll_cons_mk (shut_bool Try.underlying4 _) trodAll_mk0)
    (fun _ _ => trodAll_cons_mk (shut_int Try.underlying3 w0) (trodAll_cons_mk (shut_string Try.underlying9 hmax) trodAll_mk0)) (fun _ _ => rfl) rfl
    (hg.frame _) hg.2.1 (ok_one (by kernel_rfl) rfl (okWide_bool_mk Try.underlying4 _))⟩

set_option maxRecDepth 100000 in
theorem lifted (os : Os) (started : os.Started) (H : Type) (enc : TypeId × Value → H) :
    ReturnsInHanded {} Try.checked os 3 .any (Rows.isaNamesSpec.pre6 enc Try.prog Try.f3 Rows.isaNamesRow.domain false) (Rows.isaNamesSpec.post enc Try.prog Try.f3 false true false false) := by
  refine returnsInHanded_of_change (C := Try.checked) own started (by kernel_rfl) Try.func3
    (ChangeSpec.witness6 (enc := enc) (C := Try.checked) false ⟨#[], #[.int .i64 0, .string .empty], []⟩ 8 (by kernel_rfl) (by kernel_rfl) (by kernel_rfl) (by kernel_rfl)) ?_
  intro W base args ds gs before hval hW _ _
  exact contract H enc W base args ds gs before hval hW

theorem proved : Rows.IsaNamesSaid :=
  OpenClaim.holds_of_wide 3 Try.f3 rfl rfl rfl rfl rfl rfl rfl ⟨rfl, rfl, rfl, rfl, rfl⟩ rfl rfl rfl rfl rfl (by kernel_rfl) Try.func3 (by kernel_rfl)
    (of_decide_eq_true (by kernel_rfl)) (by unfold Func.isWrapper; first | (rw [if_pos (by decide +kernel)]; kernel_rfl) | (rw [if_neg (by decide +kernel)]; exact ⟨rfl, rfl⟩))
    (fun os started H enc _ => lifted os started H enc)

end Go.Proofs.Ytdabbjjnolkelaa.isaNames
