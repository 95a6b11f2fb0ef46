/- For the seat: texts joined: StpA. -/
import Derived.Test.YthbdmlcbdibiiaaGreatDoorJH3x4x0
import Derived.Test.YthbdmlcbdibiiaaGreatDoorJH3x4x1
import Derived.Test.YthbdmlcbdibiiaaGreatDoorJH3x4x2
import Derived.Test.YthbdmlcbdibiiaaGreatDoorJL3x0
/- The machine's chapter's example is true. -/
namespace Go.Proofs.YthbdmlcbdibiiaaGreatDoor
open Go.RowKit Go.Mem Go.Sx
set_option maxRecDepth 100000 in
theorem stp.row_ok : ∀ r ∈ stp.rows, stp.goes r = true := by
  intro r hr
  simp only [stp.rows, List.mem_cons, List.not_mem_nil, or_false] at hr
  rcases hr with rfl | rfl | rfl | rfl | rfl | rfl | rfl | rfl | rfl | rfl | rfl
  · exact stp.r0
  · exact stp.r1
  · exact stp.r2
  · exact stp.r3
  · exact stp.r4
  · exact stp.r5
  · exact stp.r6
  · exact stp.r7
  · exact stp.r8
  · exact stp.r9
  · exact stp.r10
set_option maxRecDepth 100000 in
theorem litT_cd {ρ : Env} {d : CoreD} (h : stp.fit d = true) (ss : List Sc) : cdOf ((stp.litT d).map (·.den ρ) ++ ss) = { d with l := scCl (get ss 0) } := by
  unfold stp.fit at h
  simp only [Bool.and_eq_true, decide_eq_true_eq] at h
  obtain ⟨⟨h1, _⟩, _⟩ := h
  obtain ⟨R, n, z, c, v, it, l⟩ := d
  simp only at h1
  match R, h1 with
  | [r0, r1, r2, r3, r4, r5, r6, r7, r8, r9, r10, r11, r12, r13, r14, r15], _ => rfl
set_option maxRecDepth 100000 in
theorem find_ok {ρ : Env} (h7 : ∀ ss, ρ.f 700 ss = newSc ss) : ∀ pc ts r t os, (pc.den ρ).asBool = true → stp.find pc ts = some (r, t, os) → (cdOf ((ts.map (·.den ρ)).drop 1)).Ok → (cdOf ((ts.map (·.den ρ)).drop 1)).l.length ≤ 4294967296 →
    ∃ d' : CoreD, d' = cdOf (r.map (·.den ρ) ++ [t.den ρ]) ∧ t.den ρ = clSc d'.l ∧ InR d'.l ∧ d'.l.length ≤ 4294967296 ∧ Canon d'.l ∧
    StAns stp.fS (get (ts.map (·.den ρ)) 0).asStr (cdOf ((ts.map (·.den ρ)).drop 1)) (((ts.map (·.den ρ)).drop 23).map Sc.asInt) d' (os.map fun o => (o.den ρ).asInt) := by
  intro pc ts r t os hpc hq hok hlen
  unfold stp.find at hq
  split at hq
  · rename_i row hrow
    simp only [Option.some.injEq, Prod.mk.injEq] at hq
    obtain ⟨rfl, rfl, rfl⟩ := hq
    have hm := stp.row_ok row (List.mem_of_find?_eq_some hrow)
    have hp := List.find?_some hrow
    simp only [Bool.and_eq_true, decide_eq_true_eq] at hp
    obtain ⟨hp, hl23⟩ := hp
    have hfit := hm
    unfold stp.goes at hfit
    simp only [Bool.and_eq_true] at hfit
    obtain ⟨⟨⟨f1, f2⟩, _⟩, _⟩ := hfit
    have e : ts = .text row.C :: (stp.litT row.d ++ ts.drop 22) := by
      conv => lhs; rw [← List.take_append_drop 22 ts, hp]
      rfl
    have ed : (ts.map (·.den ρ)).drop 1 = (stp.litT row.d).map (·.den ρ) ++ (ts.drop 22).map (·.den ρ) := by
      conv => lhs; rw [e]
      simp only [List.map_cons, List.drop_succ_cons, List.drop_zero, List.map_append]
    have e0 : (get (ts.map (·.den ρ)) 0).asStr = row.C := by
      conv => lhs; rw [e]
      rfl
    have eG : get ((ts.drop 22).map (·.den ρ)) 0 = (ts.getD 22 .nil).den ρ := by
      show ((ts.drop 22).map (·.den ρ)).getD 0 _ = _
      rw [List.getD_eq_getElem?_getD, List.getElem?_map, List.getElem?_drop, List.getD_eq_getElem?_getD, List.getElem?_eq_getElem (show 22 + 0 < ts.length by omega)]
      rfl
    rw [ed, litT_cd f1, eG] at hok hlen
    rw [ed, litT_cd f1, eG, e0]
    have e23 : ((ts.map (·.den ρ)).drop 23) = [] := List.drop_eq_nil_of_le (by rw [List.length_map]; omega)
    rw [e23]
    have et : (Tm.app 700 (.cons (ts.getD 22 .nil) .nil)).den ρ = clSc (newL (scCl ((ts.getD 22 .nil).den ρ))) := by
      show ρ.f 700 _ = _
      rw [h7]
      rfl
    refine ⟨{ row.d' with l := newL (scCl ((ts.getD 22 .nil).den ρ)) }, ?_, ?_, inR_new _ hok.l, ?_, canon_new _, ?_⟩
    · rw [litT_cd f2, et]
      show _ = ({ row.d' with l := scCl (clSc _) } : CoreD)
      rw [scCl_cl]
    · rw [et]
    · exact Nat.le_trans (length_new_le _) hlen
    · exact stp_ans hm hok.l hlen
  · cases hq
set_option maxRecDepth 100000 in
theorem stpA_body : ∀ f, stp.SA f ≠ none → ∃ fn c, cx.P.funcs[f]? = some fn ∧ fn.body = some c := by
  have hB : (stp.tabA.map Prod.fst).all mBody = true := by kernel_rfl
  intro f h
  match hs : stp.SA f with
  | none => exact (h hs).elim
  | some s =>
    have hm := findTab_mem hs
    have hb := List.all_eq_true.1 hB f (List.mem_map.2 ⟨_, hm, rfl⟩)
    unfold mBody at hb
    split at hb
    · rename_i fn hfn
      exact ⟨fn, _, hfn, (Option.some_get hb).symm⟩
    · cases hb
set_option maxRecDepth 100000 in
theorem stp.awake_t : stp.awake = true := by kernel_rfl
set_option maxRecDepth 100000 in
theorem awakeM : AwakeM := by
  intro w hw
  have hg := stp.awake_t
  unfold stp.awake at hg
  have hd : ({ stp.mk 0 0 false false with l := [] } : CoreD).Ok := fit_ok (d := stp.mk 0 0 false false) rfl (fun p hp => by cases hp)
  have M := menv litF_ok (C := []) (by simp) zero_has hd w
  obtain ⟨y, h1, h2⟩ := isTT_get (envM litF [] 0 { stp.mk 0 0 false false with l := [] } w) _ hg
  have mn : ∀ k, k < 100 → SpecOk (envM litF [] 0 { stp.mk 0 0 false false with l := [] } w) 35 (specNew [.dat k] 100 (fun t => .app 700 t)) := fun k hk => specNew_ok M.vars M.nil (fun ss vs w h => mnew_spec M.ab M.ms.s700 k hk ss vs w h)
  have hS : stp.SA.Ok (envM litF [] 0 { stp.mk 0 0 false false with l := [] } w) (mex.cxm false) := by
    intro f sp h
    have hm := findTab_mem h
    simp only [stp.tabA, List.mem_cons, List.not_mem_nil, or_false, Prod.mk.injEq] at hm
    rcases hm with ⟨rfl, rfl⟩ | ⟨rfl, rfl⟩ | ⟨rfl, rfl⟩
    · exact orS_ok (mn 1 (by omega)) (mn 2 (by omega))
    · exact specNew_ok M.vars M.nil (fun ss vs w h => cells_spec M.ab ss vs w h)
    · exact orS_ok (coreS_ok M.vars M.nil M.ab (by omega) (find_ok M.ms.s700)) (coreS_ok M.vars M.nil M.ab (by omega) (find_ok M.ms.s700))
  have hc := call_ok (cxm_ok false) hS stpA_body rfl h1
  have := hc (ownK w) w _ w (start (envM litF [] 0 { stp.mk 0 0 false false with l := [] } w) hw (fun q h => h)) (by simp)
  refine Calls.mono (R := _) this ?_
  rintro e w' ⟨ι', _, _, H', _, _, rfl⟩
  rw [h2]
  exact ⟨by simp [SVal.conc, Tm.den], H'.grown⟩
end Go.Proofs.YthbdmlcbdibiiaaGreatDoor
