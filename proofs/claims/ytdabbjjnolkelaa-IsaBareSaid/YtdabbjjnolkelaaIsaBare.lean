/- IsaBare: for every instruction the law returns true, and the argument reads as before. No condition. -/
import Derived.Test.YtdabbjjnolkelaaIsaBareP0
import Derived.Test.YtdabbjjnolkelaaIsaBareP1
import Derived.Test.YtdabbjjnolkelaaIsaBareP2
import Derived.Test.YtdabbjjnolkelaaIsaBareP3
import Derived.Test.YtdabbjjnolkelaaIsaBareP4
import Derived.Test.YtdabbjjnolkelaaIsaBareP5
import Derived.Test.YtdabbjjnolkelaaIsaBareP6
import Derived.Test.YtdabbjjnolkelaaIsaBareP7
import Derived.Test.YtdabbjjnolkelaaIsaBareP8
import Derived.WalkKit
import Derived.ProofKit
import Derived.OpenShut
namespace Go.Proofs.Ytdabbjjnolkelaa.isaBare
open Go.ChangeShapes Go.WideShapes Go.ChangeAt Go.RowKit Go.Sx

theorem go_all (k : Nat) (h : 1 ≤ k) (h' : k ≤ 45) (h3 : k ≠ 42) : goes k = true := by
  match k, h, h', h3 with
  | 1, _, _, _ => exact go1
  | 2, _, _, _ => exact go2
  | 3, _, _, _ => exact go3
  | 4, _, _, _ => exact go4
  | 5, _, _, _ => exact go5
  | 6, _, _, _ => exact go6
  | 7, _, _, _ => exact go7
  | 8, _, _, _ => exact go8
  | 9, _, _, _ => exact go9
  | 10, _, _, _ => exact go10
  | 11, _, _, _ => exact go11
  | 12, _, _, _ => exact go12
  | 13, _, _, _ => exact go13
  | 14, _, _, _ => exact go14
  | 15, _, _, _ => exact go15
  | 16, _, _, _ => exact go16
  | 17, _, _, _ => exact go17
  | 18, _, _, _ => exact go18
  | 19, _, _, _ => exact go19
  | 20, _, _, _ => exact go20
  | 21, _, _, _ => exact go21
  | 22, _, _, _ => exact go22
  | 23, _, _, _ => exact go23
  | 24, _, _, _ => exact go24
  | 25, _, _, _ => exact go25
  | 26, _, _, _ => exact go26
  | 27, _, _, _ => exact go27
  | 28, _, _, _ => exact go28
  | 29, _, _, _ => exact go29
  | 30, _, _, _ => exact go30
  | 31, _, _, _ => exact go31
  | 32, _, _, _ => exact go32
  | 33, _, _, _ => exact go33
  | 34, _, _, _ => exact go34
  | 35, _, _, _ => exact go35
  | 36, _, _, _ => exact go36
  | 37, _, _, _ => exact go37
  | 38, _, _, _ => exact go38
  | 39, _, _, _ => exact go39
  | 40, _, _, _ => exact go40
  | 41, _, _, _ => exact go41
  | 43, _, _, _ => exact go43
  | 44, _, _, _ => exact go44
  | 45, _, _, _ => exact go45
  | 42, _, _, h3 => exact (h3 rfl).elim
  | n + 46, _, h', _ => omega

theorem its_all (c : Nat) (h : c ≤ 14) : its c = true := by
  match c, h with
  | 0, _ => exact its0
  | 1, _ => exact its1
  | 2, _ => exact its2
  | 3, _ => exact its3
  | 4, _ => exact its4
  | 5, _ => exact its5
  | 6, _ => exact its6
  | 7, _ => exact its7
  | 8, _ => exact its8
  | 9, _ => exact its9
  | 10, _ => exact its10
  | 11, _ => exact its11
  | 12, _ => exact its12
  | 13, _ => exact its13
  | 14, _ => exact its14
  | n + 15, h => omega

theorem walk {x : Fields} (hx : x.Ok) (w : World) : Calls Try.prog 5 #[x.val] w fun e w' => e = .returned (.bool true) ∧ Grown w w' := by
  have go : ∀ (o c n i : Tm), o.den x.envF = .int x.x0 → c.den x.envF = .int x.x1 → n.den x.envF = .int x.x3 → i.den x.envF = .int x.x5 → ∀ l, at' o c n i l = true → (∀ t ∈ l, (t.den x.envF).asBool = true) →
      Calls Try.prog 5 #[x.val] w fun e w' => e = .returned (.bool true) ∧ Grown w w' :=
    fun o c n i ho hc hn hi l hl hp => law_insP hx ho hc hn hi (conj_den _ l hp) hl w
  have e0 : (v 0).den x.envF = .int x.x0 := rfl
  have e1 : (v 1).den x.envF = .int x.x1 := rfl
  have e3 : (v 3).den x.envF = .int x.x3 := rfl
  have e5 : (v 5).den x.envF = .int x.x5 := rfl
  by_cases h1 : x.x0 < 1
  · refine go _ _ _ _ e0 e1 e3 e5 _ low ?_
    simp [lt, Tm.den, Op2.ev, e0, h1]
  by_cases h2 : 45 < x.x0
  · refine go _ _ _ _ e0 e1 e3 e5 _ high ?_
    simp [lt, gt, no, Tm.den, Op1.ev, Op2.ev, e0, h1, h2]
  obtain ⟨k, hk⟩ := Int.eq_ofNat_of_zero_le (show 0 ≤ x.x0 by omega)
  have ek : (Tm.num (Int.ofNat k)).den x.envF = .int x.x0 := by rw [hk]; rfl
  by_cases h42 : k = 42
  · have e42 : (Tm.num 42).den x.envF = .int x.x0 := by rw [hk, h42]; rfl
    by_cases c1 : x.x1 < 0
    · refine go _ _ _ _ e42 e1 e3 e5 _ it_a ?_
      simp [lt, Tm.den, Op2.ev, e1, c1]
    by_cases c2 : 14 < x.x1
    · refine go _ _ _ _ e42 e1 e3 e5 _ it_b ?_
      simp [lt, gt, no, Tm.den, Op1.ev, Op2.ev, e1, c1, c2]
    by_cases c3 : x.x5 < 1
    · refine go _ _ _ _ e42 e1 e3 e5 _ it_c ?_
      simp [lt, gt, no, Tm.den, Op1.ev, Op2.ev, e1, e5, c1, c2, c3]
    by_cases c4 : 15 < x.x5
    · refine go _ _ _ _ e42 e1 e3 e5 _ it_d ?_
      simp [lt, gt, no, Tm.den, Op1.ev, Op2.ev, e1, e5, c1, c2, c3, c4]
    obtain ⟨c, hc⟩ := Int.eq_ofNat_of_zero_le (show 0 ≤ x.x1 by omega)
    obtain ⟨m, hm⟩ := Int.eq_ofNat_of_zero_le (show 0 ≤ x.x5 by omega)
    have := List.all_eq_true.1 (its_all c (by omega)) m (by rw [List.mem_range'_1]; omega)
    exact go _ _ _ _ e42 (by rw [hc]; rfl) e3 (by rw [hm]; rfl) _ this (by simp)
  · exact go _ _ _ _ ek e1 e3 e5 _ (go_all k (by omega) (by omega) h42) (by simp)

theorem own : ownKnob Try.prog.godebug = none := by kernel_rfl

theorem contract (H : Type) (enc : TypeId × Value → H) (W : World) (base : Nat) (args : Array Value) (ds gs : List (DataW H)) (before : List MemPlace)
    (hval : ∀ (j : Nat) t v, Try.f5.params[j]? = some t → args[j]? = some v → Value.okWide Try.prog W .any base t v)
    (hW : DataW.Whole enc Try.prog Try.f5.params.toList Rows.isaBareSpec.vars false W args.toList ds gs before) :
    Calls Try.prog 5 args W fun e W' => ∃ v, e = .returned v ∧ Rows.isaBareSpec.post enc Try.prog Try.f5 false true false false W args v W' := by
  have hW' := hW
  obtain ⟨p, q, hA0, hV, rfl, hfz, hnd⟩ := hW
  have hA : DataW.TrodAll enc Try.prog W 0 (fun _ => true) true Try.f5.params.toList args.toList ds p := hA0
  rw [Try.params5] at hA hval
  obtain ⟨v0, vs0, d0, ds0, p0, q0, hargs, rfl, rfl, h0, r0⟩ := trodAll_cons hA
  obtain ⟨rfl, rfl, rfl⟩ := trodAll_nil r0
  obtain rfl : args = #[v0] := by cases args; simp_all
  obtain ⟨rfl, rfl⟩ := trodVars_none hV
  obtain ⟨x, hx, rfl, rfl, again⟩ := open_insR (hval 0 29 v0 rfl rfl) h0
  clear hA0
  simp only [List.append_nil] at hW'
  refine (walk hx W).mono fun e W' ⟨he, hg⟩ => ?_
  subst he
  exact ⟨_, rfl, post_of_same (pa := []) (pv := []) hW' (fun _ _ _ => trodAll_cons_mk (shut_bool Try.underlying4 _) trodAll_mk0)
    (fun _ _ => trodAll_cons_mk (again _ _ _ _) trodAll_mk0) (fun _ _ => rfl) rfl
    (hg.frame _) hg.2.1 (ok_one (by kernel_rfl) rfl (okWide_bool_mk Try.underlying4 _))⟩

theorem lifted (os : Os) (started : os.Started) (H : Type) (enc : TypeId × Value → H) :
    ReturnsInHanded {} Try.checked os 5 .any (Rows.isaBareSpec.pre6 enc Try.prog Try.f5 Rows.isaBareRow.domain false) (Rows.isaBareSpec.post enc Try.prog Try.f5 false true false false) := by
  refine returnsInHanded_of_change (C := Try.checked) own started (by kernel_rfl) Try.func5
    (ChangeSpec.witness6 (enc := enc) (C := Try.checked) false ⟨#[], #[.agg #[.int .i64 0, .int .i64 0, .int .i64 0, .int .i64 0, .int .i64 0, .int .i64 0, .int .i64 0, .int .i64 0, .bool false]], []⟩ 8 (by kernel_rfl) (by kernel_rfl) (by kernel_rfl) (by kernel_rfl)) ?_
  intro W base args ds gs before hval hW _ _
  exact contract H enc W base args ds gs before hval hW

theorem proved : Rows.IsaBareSaid :=
  OpenClaim.holds_of_wide 5 Try.f5 rfl rfl rfl rfl rfl rfl rfl ⟨rfl, rfl, rfl, rfl, rfl⟩ rfl rfl rfl rfl rfl (by kernel_rfl) Try.func5 (by kernel_rfl)
    (of_decide_eq_true (by kernel_rfl)) (by unfold Func.isWrapper; first | (rw [if_pos (by decide +kernel)]; kernel_rfl) | (rw [if_neg (by decide +kernel)]; exact ⟨rfl, rfl⟩))
    (fun os started H enc _ => lifted os started H enc)

end Go.Proofs.Ytdabbjjnolkelaa.isaBare
