/- For the seat: expand.Find by a walk: the least number of twelve bits that tells a number. -/
import Derived.Test.YtaiecnepchndkaaDoorExpDef
import Derived.WalkKit
import Derived.LoopTactic
import Derived.Lib.Hide
namespace Go.Proofs.YtaiecnepchndkaaDoor
open Go.Sx Go.ChangeShapes Go.WideShapes Go.RowKit Go.Joins Go.Deep

def expI (k : Int) : Int := (ex.expT.den (envOf F [.int k])).asInt
def valB (k : Int) : Bool := (ex.valT.den (envOf F [.int k])).asBool
/-- It is the one. -/
def hit (x : Int) (k : Nat) : Bool := valB k && (expI k == x)
/-- The least one (kept from being reckoned out). -/
noncomputable def findF : { f : Int → Option Nat // ∀ x, f x = (List.range 4096).find? (hit x) } := Classical.choice ⟨⟨_, fun _ => rfl⟩⟩
noncomputable def findN (x : Int) : Option Nat := findF.1 x
theorem findN_eq (x : Int) : findN x = (List.range 4096).find? (hit x) := findF.2 x
noncomputable def findI (x : Int) : Int := match findN x with | some n => n | none => 0
noncomputable def findB (x : Int) : Bool := (findN x).isSome

/-- What a walk keeps of the world. -/
def Inv (K : Nat → Prop) (w0 : World) (ι : Nm) (w : World) : Prop := HR (envOf F []) cx.globs K w0 ι [] w

theorem inv_of {ρ : Env} {K : Nat → Prop} {w0 : World} {ι ι' : Nm} {h : Heap} {w : World} (H : HR ρ cx.globs K w0 ι h w) : Inv K w0 ι' w := by
  have H0 := (H.forget (h' := []) (by intro n b hb; simp at hb)).ext (ι' := ι') (by intro m hm; simp at hm)
  refine ⟨H0.os, H0.tape, H0.output, H0.size, H0.kept, H0.old, H0.free, ?_, ?_, ?_⟩
  · intro n b hb; simp at hb
  · intro n m b c hb; simp at hb
  · intro g cs hg
    obtain ⟨h1, h2, arr, t, fz, h3, h4⟩ := H0.globs g cs hg
    exact ⟨h1, h2, arr, t, fz, h3, by rw [h4]; exact globsC g cs hg _ _ _⟩

theorem inv_env {K : Nat → Prop} {w0 : World} {ι : Nm} {w : World} (H : Inv K w0 ι w) (ρ : Env) : HR ρ cx.globs K w0 ι [] w := by
  refine ⟨H.os, H.tape, H.output, H.size, H.kept, H.old, H.free, ?_, ?_, ?_⟩
  · intro n b hb; simp at hb
  · intro n m b c hb; simp at hb
  · intro g cs hg
    obtain ⟨h1, h2, arr, t, fz, h3, h4⟩ := H.globs g cs hg
    exact ⟨h1, h2, arr, t, fz, h3, by rw [h4]; exact globsC g cs hg _ _ _⟩

theorem exp_inv (k : Int) (hk : kHas .i64 k) {K : Nat → Prop} {w0 : World} {ι : Nm} {w : World} (hI : Inv K w0 ι w) : Calls Tryd.prog 167 #[.int .i64 k] w fun e w' => e = .returned (.int .u32 (expI k)) ∧ Inv K w0 ι w' := by
  have S : Sats (envOf F [.int k]) ex.kn := by
    refine Sats.start (one_vars (s := .int k) hk) _ ?_
    intro i hi
    simp only [List.mem_cons, List.not_mem_nil, or_false] at hi
    subst hi
    exact ⟨_, rfl⟩
  obtain ⟨x', h1, h2⟩ := pxIs_ok (sg_ok' F_signs) _ _ S ex.exp_run
  have hc := call_ok (ρ := envOf F [.int k]) cxok (noS_ok _ _) (noS_body _) rfl h1
  have := hc K w0 ι w (inv_env hI _) (by intro v hv; simp at hv; subst hv; rfl)
  refine this.mono ?_
  rintro e w' ⟨ι', _, _, H, _, _, rfl⟩
  rw [h2]
  exact ⟨rfl, inv_of H⟩

theorem val_inv (k : Int) (hk : kHas .i64 k) {K : Nat → Prop} {w0 : World} {ι : Nm} {w : World} (hI : Inv K w0 ι w) : Calls Tryd.prog 168 #[.int .i64 k] w fun e w' => e = .returned (.bool (valB k)) ∧ Inv K w0 ι w' := by
  have S : Sats (envOf F [.int k]) ex.kn := by
    refine Sats.start (one_vars (s := .int k) hk) _ ?_
    intro i hi
    simp only [List.mem_cons, List.not_mem_nil, or_false] at hi
    subst hi
    exact ⟨_, rfl⟩
  obtain ⟨x', h1, h2⟩ := pxIs_ok (sg_ok' F_signs) _ _ S ex.val_run
  have hc := call_ok (ρ := envOf F [.int k]) cxok (noS_ok _ _) (noS_body _) rfl h1
  have := hc K w0 ι w (inv_env hI _) (by intro v hv; simp at hv; subst hv; rfl)
  refine this.mono ?_
  rintro e w' ⟨ι', _, _, H, _, _, rfl⟩
  rw [h2]
  exact ⟨rfl, inv_of H⟩

theorem nat_has {k : Nat} (h : k ≤ 4096) : kHas .i64 (k : Int) := by
  show -2 ^ 63 ≤ (k : Int) ∧ (k : Int) < 2 ^ 63
  omega

theorem find_hit {x : Int} {k : Nat} (hk : k < 4096) (h : hit x k = true) (hno : ∀ j, j < k → hit x j = false) : findN x = some k := by
  rw [findN_eq, List.find?_range_eq_some]
  exact ⟨h, List.mem_range.2 hk, fun j hj => by rw [hno j hj]; rfl⟩

theorem find_none {x : Int} (hno : ∀ j, j < 4096 → hit x j = false) : findN x = none := by
  rw [findN_eq, List.find?_eq_none]
  intro j hj
  rw [hno j (List.mem_range.1 hj)]
  exact Bool.false_ne_true

/-- The relation of the loop. -/
def Fnd (x : Int) (K : Nat → Prop) (w0 : World) (ι : Nm) (i : Value) (wr : World) : Prop := ∃ k : Nat, k ≤ 4096 ∧ i = .int .i64 k ∧ (∀ j, j < k → hit x j = false) ∧ Inv K w0 ι wr

/-- What is answered. -/
def Fans (x : Int) (K : Nat → Prop) (w0 : World) (ι : Nm) (e : Ending) (w' : World) : Prop := e = .returned (.tuple #[.int .i64 (findI x), .bool (findB x)]) ∧ Inv K w0 ι w'

theorem fans_hit {x : Int} {k : Nat} {K : Nat → Prop} {w0 : World} {ι : Nm} {w' : World} (hk : k < 4096) (h : hit x k = true) (hno : ∀ j, j < k → hit x j = false) (hI : Inv K w0 ι w') : Fans x K w0 ι (.returned (.tuple #[.int .i64 (k : Int), .bool true])) w' := by
  refine ⟨?_, hI⟩
  unfold findI findB
  rw [find_hit hk h hno]
  rfl

theorem fans_none {x : Int} {K : Nat → Prop} {w0 : World} {ι : Nm} {w' : World} (hno : ∀ j, j < 4096 → hit x j = false) (hI : Inv K w0 ι w') : Fans x K w0 ι (.returned (.tuple #[.int .i64 0, .bool false])) w' := by
  refine ⟨?_, hI⟩
  unfold findI findB
  rw [find_none hno]
  rfl

theorem no_more {x : Int} {k : Nat} (h : hit x k = false) (hno : ∀ j, j < k → hit x j = false) : ∀ j, j < k + 1 → hit x j = false := by
  intro j hj
  by_cases e : j = k
  · subst e; exact h
  · exact hno j (by omega)

set_option maxHeartbeats 400000 in
set_option maxRecDepth 100000 in
theorem find_inv (x : Int) {K : Nat → Prop} {w0 : World} {ι : Nm} {w : World} (hI : Inv K w0 ι w) : Calls Tryd.prog 170 #[.int .u32 x] w (Fans x K w0 ι) := by
  go_enter Tryd.func170, Tryd.ntmps170
  go_wp2
  go_loopw [5] (fun i wr => Fnd x K w0 ι i wr) (fun i _ => 4096 - (intOf i).toNat)
  case atStart => exact ⟨0, by omega, rfl, (by intro j hj; omega), hI⟩
  case round =>
    obtain ⟨k, hk, rfl, hno, hr⟩ := hrel
    have HN := Lib.hid hno
    clear hno
    by_cases hlt : k < 4096
    · cases hv : valB k
      · have hh : hit x k = false := by unfold hit; rw [hv]; rfl
        have HH := Lib.hid hh
        clear hh
        go_wp2_with ((go_at_call 168; refine (val_inv _ (nat_has hk) hr).mono ?_; rintro e w' ⟨rfl, hr'⟩))
        go_roundw
        case rel => exact ⟨k + 1, by omega, by go_num, no_more HH.out HN.out, hr'⟩
        case measure => simp [intOf]; omega
      · cases he : (expI k == x)
        · have hh : hit x k = false := by unfold hit; rw [hv, he]; rfl
          have HH := Lib.hid hh
          clear hh
          go_wp2_with (first | ((go_at_call 168; refine (val_inv _ (nat_has hk) hr).mono ?_; rintro e w' ⟨rfl, hr'⟩)) | ((go_at_call 167; refine (exp_inv _ (nat_has hk) hr').mono ?_; rintro e w2 ⟨rfl, hr2⟩)))
          go_roundw
          case rel => exact ⟨k + 1, by omega, by go_num, no_more HH.out HN.out, hr2⟩
          case measure => simp [intOf]; omega
        · have hh : hit x k = true := by unfold hit; rw [hv, he]; rfl
          have HH := Lib.hid hh
          clear hh
          go_wp2_with (first | ((go_at_call 168; refine (val_inv _ (nat_has hk) hr).mono ?_; rintro e w' ⟨rfl, hr'⟩)) | ((go_at_call 167; refine (exp_inv _ (nat_has hk) hr').mono ?_; rintro e w2 ⟨rfl, hr2⟩)))
          go_ret2
          exact fans_hit hlt HH.out HN.out hr2
    · obtain rfl : k = 4096 := by omega
      go_wp2
      go_ret2
      exact fans_none HN.out hr

end Go.Proofs.YtaiecnepchndkaaDoor
