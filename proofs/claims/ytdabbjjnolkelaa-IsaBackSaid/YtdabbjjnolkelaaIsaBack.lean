/- IsaBack: for every number the law returns true, and the argument reads as before. No condition. -/
import Derived.Test.YtdabbjjnolkelaaBase
import Derived.WalkKit
import Derived.ProofKit
import Derived.OpenShut
namespace Go.Proofs.Ytdabbjjnolkelaa.isaBack
open Go.ChangeShapes Go.WideShapes Go.ChangeAt Go.RowKit Go.Sx

def f1 (o : Op2) (k : Int) : Tm := .op2 o (.var 0) (.num k)
def f2 (o : Op2) (k : Int) : Tm := .op2 o (.num k) (.var 0)
def low : List Tm := [f1 .lt 0, f1 .lt 1]
def high : List Tm := [.op1 .not (f1 .lt 0), f2 .lt 45, .op1 .not (f1 .lt 1)]

noncomputable def goes (k : Nat) : Bool := isTrue (callT cx awakeS (run cx awakeS 400) 4 [.int .i64 (.num (Int.ofNat k))] [] (.bit true))

set_option maxRecDepth 100000 in
theorem back_low : isTrue (callT cx awakeS (run cx awakeS 400) 4 [.int .i64 (.var 0)] [] (low.foldr mkAnd (.bit true))) = true := by kernel_rfl
set_option maxRecDepth 100000 in
theorem back_high : isTrue (callT cx awakeS (run cx awakeS 400) 4 [.int .i64 (.var 0)] [] (high.foldr mkAnd (.bit true))) = true := by kernel_rfl
set_option maxRecDepth 100000 in
theorem back_a : ((List.range' 0 12).all goes) = true := by kernel_rfl
set_option maxRecDepth 100000 in
theorem back_b : ((List.range' 12 10).all goes) = true := by kernel_rfl
set_option maxRecDepth 100000 in
theorem back_c : ((List.range' 22 8).all goes) = true := by kernel_rfl
set_option maxRecDepth 100000 in
theorem back_d : ((List.range' 30 8).all goes) = true := by kernel_rfl
set_option maxRecDepth 100000 in
theorem back_e : ((List.range' 38 8).all goes) = true := by kernel_rfl

theorem back_mid (k : Nat) (hk : k < 46) : goes k = true := by
  have key : ∀ a n, ((List.range' a n).all goes) = true → a ≤ k → k < a + n → goes k = true := fun a n h h1 h2 =>
    List.all_eq_true.1 h k (by rw [List.mem_range'_1]; exact ⟨h1, h2⟩)
  rcases Nat.lt_or_ge k 12 with h | h
  · exact key 0 12 back_a (by omega) (by omega)
  · rcases Nat.lt_or_ge k 22 with h | h
    · exact key 12 10 back_b (by omega) (by omega)
    · rcases Nat.lt_or_ge k 30 with h | h
      · exact key 22 8 back_c (by omega) (by omega)
      · rcases Nat.lt_or_ge k 38 with h | h
        · exact key 30 8 back_d (by omega) (by omega)
        · exact key 38 8 back_e (by omega) (by omega)

def env (op : Int) : Env := ⟨fun _ => .int op, fun _ _ => .int 0, fun _ => undef⟩

theorem walk (op : Int) (w : World) : Calls Try.prog 4 #[.int .i64 op] w fun e w' => e = .returned (.bool true) ∧ Grown w w' := by
  have key : ∀ pc, (pc.den (env op)).asBool = true → isTrue (callT cx awakeS (run cx awakeS 400) 4 [.int .i64 (.var 0)] [] pc) = true → Calls Try.prog 4 #[.int .i64 op] w fun e w' => e = .returned (.bool true) ∧ Grown w w' := by
    intro pc hpc hx
    exact law_true (ρ := env op) cxok rfl (awakeS_ok _) awakeS_body (by intro v hv; simp at hv; subst hv; rfl) hpc hx w
  by_cases h1 : op < 0
  · refine key _ (conj_den _ _ ?_) back_low
    intro t ht
    simp only [low, List.mem_cons, List.not_mem_nil, or_false] at ht
    rcases ht with rfl | rfl <;> simp [f1, Tm.den, Op2.ev, show (env op).v 0 = Sc.int op from rfl] <;> omega
  · by_cases h2 : 45 < op
    · refine key _ (conj_den _ _ ?_) back_high
      intro t ht
      simp only [high, List.mem_cons, List.not_mem_nil, or_false] at ht
      rcases ht with rfl | rfl | rfl <;> simp [f1, f2, Tm.den, Op2.ev, Op1.ev, show (env op).v 0 = Sc.int op from rfl] <;> omega
    · obtain ⟨k, rfl⟩ := Int.eq_ofNat_of_zero_le (show 0 ≤ op by omega)
      exact law_true (ρ := env (k : Int)) cxok rfl (awakeS_ok _) awakeS_body (by intro v hv; simp at hv; subst hv; rfl) rfl (back_mid k (by omega)) w

theorem own : ownKnob Try.prog.godebug = none := by kernel_rfl

theorem contract (H : Type) (enc : TypeId × Value → H) (W : World) (base : Nat) (args : Array Value) (ds gs : List (DataW H)) (before : List MemPlace)
    (hval : ∀ (j : Nat) t v, Try.f4.params[j]? = some t → args[j]? = some v → Value.okWide Try.prog W .any base t v)
    (hW : DataW.Whole enc Try.prog Try.f4.params.toList Rows.isaBackSpec.vars false W args.toList ds gs before) :
    Calls Try.prog 4 args W fun e W' => ∃ v, e = .returned v ∧ Rows.isaBackSpec.post enc Try.prog Try.f4 false true false false W args v W' := by
  have hW' := hW
  obtain ⟨p, q, hA0, hV, rfl, hfz, hnd⟩ := hW
  have hA : DataW.TrodAll enc Try.prog W 0 (fun _ => true) true Try.f4.params.toList args.toList ds p := hA0
  rw [Try.params4] at hA hval
  obtain ⟨v0, vs0, d0, ds0, p0, q0, hargs, rfl, rfl, h0, r0⟩ := trodAll_cons hA
  obtain ⟨rfl, rfl, rfl⟩ := trodAll_nil r0
  obtain rfl : args = #[v0] := by cases args; simp_all
  obtain ⟨rfl, rfl⟩ := trodVars_none hV
  obtain ⟨op, rfl, rfl, rfl, w0⟩ := open_int Try.underlying3 (hval 0 3 v0 rfl rfl) h0
  clear hA0
  simp only [List.append_nil] at hW'
  refine (walk op W).mono fun e W' ⟨he, hg⟩ => ?_
  subst he
  exact ⟨_, rfl, post_of_same (pa := []) (pv := []) hW' (fun _ _ _ => trodAll_cons_mk (shut_bool Try.underlying4 _) trodAll_mk0)
    (fun _ _ => trodAll_cons_mk (shut_int Try.underlying3 w0) trodAll_mk0) (fun _ _ => rfl) rfl
    (hg.frame _) hg.2.1 (ok_one (by kernel_rfl) rfl (okWide_bool_mk Try.underlying4 _))⟩

set_option maxRecDepth 100000 in
theorem lifted (os : Os) (started : os.Started) (H : Type) (enc : TypeId × Value → H) :
    ReturnsInHanded {} Try.checked os 4 .any (Rows.isaBackSpec.pre6 enc Try.prog Try.f4 Rows.isaBackRow.domain false) (Rows.isaBackSpec.post enc Try.prog Try.f4 false true false false) := by
  refine returnsInHanded_of_change (C := Try.checked) own started (by kernel_rfl) Try.func4
    (ChangeSpec.witness6 (enc := enc) (C := Try.checked) false ⟨#[], #[.int .i64 0], []⟩ 8 (by kernel_rfl) (by kernel_rfl) (by kernel_rfl) (by kernel_rfl)) ?_
  intro W base args ds gs before hval hW _ _
  exact contract H enc W base args ds gs before hval hW

theorem proved : Rows.IsaBackSaid :=
  OpenClaim.holds_of_wide 4 Try.f4 rfl rfl rfl rfl rfl rfl rfl ⟨rfl, rfl, rfl, rfl, rfl⟩ rfl rfl rfl rfl rfl (by kernel_rfl) Try.func4 (by kernel_rfl)
    (of_decide_eq_true (by kernel_rfl)) (by unfold Func.isWrapper; first | (rw [if_pos (by decide +kernel)]; kernel_rfl) | (rw [if_neg (by decide +kernel)]; exact ⟨rfl, rfl⟩))
    (fun os started H enc _ => lifted os started H enc)

end Go.Proofs.Ytdabbjjnolkelaa.isaBack
