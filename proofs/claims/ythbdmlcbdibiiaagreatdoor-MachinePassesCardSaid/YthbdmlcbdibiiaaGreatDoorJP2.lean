/- For the seat: texts joined: Ans15, Pas. -/
import Derived.Test.YthbdmlcbdibiiaaGreatDoorJL3x0
import Derived.Test.YthbdmlcbdibiiaaGreatDoorJP0
import Derived.Test.YthbdmlcbdibiiaaGreatDoorJP1
/- A core that is answered, as the executor's leaf. -/
namespace Go.Proofs.YthbdmlcbdibiiaaGreatDoor
open Go.RowKit Go.Mem Go.Sx

set_option maxRecDepth 100000 in
/-- A core that is answered, with a number, as the executor's leaf. -/
theorem core_answer {ρ : Env} {B : Nat → Prop} (hab : ρ.ab = mchAbs B) {K : Nat → Prop} {w0 w : World} {ι : Nm} {h : Heap} (H : HR ρ cx.globs K w0 ι h w) {pc : Tm} (hpc : (pc.den ρ).asBool = true) {r : List Tm} (hr : r.length = 21) {t o : Tm} {d' : CoreD}
    (hd' : d' = cdOf (r.map (·.den ρ) ++ [t.den ρ])) (ht : t.den ρ = clSc d'.l) (hI : InR d'.l) (hL : d'.l.length ≤ 4294967296) (hCan : Canon d'.l) {f : Nat} {args : Array Value}
    (hans : Calls Tryz.prog f args w fun e w' => ∃ A' cap', e = .returned (.tuple #[d'.val (.slice A' d'.l.length cap'), .int .i64 (o.den ρ).asInt]) ∧ ClAt w' w'.heap.size A' d'.l ∧ NewA w.heap.size d'.l A' ∧ Below w.heap.size w w') :
    Calls Tryz.prog f args w fun e w' => ∃ ι' : Nm, Nm.Ext h.length ι ι' ∧ h.length ≤ (h ++ [some (absNew 2 t)]).length ∧ HR ρ cx.globs K w0 ι' (h ++ [some (absNew 2 t)]) w' ∧ (SVal.tup (.cons (coreV r h.length) (.cons (.int .i64 o) .nil))).sc (h ++ [some (absNew 2 t)]).length = true ∧
      (pc.den ρ).asBool = true ∧ e = .returned ((SVal.tup (.cons (coreV r h.length) (.cons (.int .i64 o) .nil))).conc ρ ι') := by
  refine Calls.mono (R := _) hans ?_
  rintro e w' ⟨A', cap', rfl, hcl, hnew, hb⟩
  refine ⟨ι.putV h.length ⟨.slice A' d'.l.length cap', rfl⟩ (fun q => d'.l ≠ [] ∧ ∃ a, A' = some a ∧ q = a.block), Nm.ext_putV ι _ _ _, by simp, ?_, ?_, hpc, ?_⟩
  · refine H.newV hb _ _ ?_ ?_
    · rw [hab]
      exact .inl ⟨by omega, d'.l, A', cap', ht, rfl, hcl, hI, ⟨hL, fun _ => hCan⟩, rfl⟩
    · rintro q ⟨hne, a, ha, rfl⟩
      obtain ⟨a', ha', hle⟩ := hnew hne
      rw [ha] at ha'
      simp only [Option.some.injEq] at ha'
      subst ha'
      exact hle
  · have hs : (SVal.cons (coreV r h.length) (.cons (.int .i64 o) .nil)).sc (h.length + 1) = true := by
      simp only [SVal.sc, sc_core, Bool.and_self]
    simpa [SVal.sc] using hs
  · have e3 : ((ι.putV h.length ⟨.slice A' d'.l.length cap', rfl⟩ (fun q => d'.l ≠ [] ∧ ∃ a, A' = some a ∧ q = a.block)).val h.length).v = .slice A' d'.l.length cap' := by simp [Nm.putV]
    simp only [SVal.conc, SVal.concL, coreV_conc ρ _ hr h.length (t.den ρ), e3, ← hd']


set_option maxRecDepth 100000 in
theorem regs_wrap {R : List Int} (hl : R.length = 16) (hR : ∀ r ∈ R, kHas .u32 r) : (List.range 16).map (fun i => IntKind.u32.wrap (R.getD i 0)) = R := by
  match R, hl, hR with
  | [r0, r1, r2, r3, r4, r5, r6, r7, r8, r9, r10, r11, r12, r13, r14, r15], _, hR =>
    have e : ∀ r ∈ [r0, r1, r2, r3, r4, r5, r6, r7, r8, r9, r10, r11, r12, r13, r14, r15], IntKind.u32.wrap r = r := by
      intro r hr
      have := u32_of (hR r hr)
      show r % 4294967296 = r
      omega
    simp only [List.mem_cons, List.not_mem_nil, or_false, forall_eq_or_imp, forall_eq] at e
    obtain ⟨e0, e1, e2, e3, e4, e5, e6, e7, e8, e9, e10, e11, e12, e13, e14, e15⟩ := e
    show [IntKind.u32.wrap r0, IntKind.u32.wrap r1, IntKind.u32.wrap r2, IntKind.u32.wrap r3, IntKind.u32.wrap r4, IntKind.u32.wrap r5, IntKind.u32.wrap r6, IntKind.u32.wrap r7, IntKind.u32.wrap r8, IntKind.u32.wrap r9, IntKind.u32.wrap r10, IntKind.u32.wrap r11, IntKind.u32.wrap r12, IntKind.u32.wrap r13, IntKind.u32.wrap r14, IntKind.u32.wrap r15] = _
    rw [e0, e1, e2, e3, e4, e5, e6, e7, e8, e9, e10, e11, e12, e13, e14, e15]

end Go.Proofs.YthbdmlcbdibiiaaGreatDoor
/- MachinePasses: Exec where the condition is false, as the executor knows it; the law at all data. -/
namespace Go.Proofs.YthbdmlcbdibiiaaGreatDoor
open Go.RowKit Go.Mem Go.Sx

namespace pas
def allB (p : Bool → Bool) : Bool := p true && p false
set_option maxRecDepth 100000 in
theorem allB_get {p : Bool → Bool} (h : allB p = true) (b : Bool) : p b = true := by
  unfold allB at h
  rw [Bool.and_eq_true] at h
  cases b
  · exact h.2
  · exact h.1
def dat (k : Nat) (n z c v : Bool) (R : List Int) (l : Cells) : CoreD := ⟨R, n, z, c, v, 16 * k + 8, l⟩
noncomputable def ck (k : Nat) (n z c v : Bool) : Bool :=
  (mex.inIt.den (env0 litF [] 2 (dat k n z c v [] []))).asBool && ((mex.holds.den (env0 litF [] 2 (dat k n z c v [] []))).asBool == holdLit k n z c v) && decide ((exe.passed.it.den (env0 litF [] 2 (dat k n z c v [] []))).asInt = 0)
set_option maxRecDepth 100000 in
theorem all : cnd.allN (fun k => allB fun n => allB fun z => allB fun c => allB fun v => ck k n z c v) 14 = true := by kernel_rfl
set_option maxRecDepth 100000 in
theorem ck_ok {k : Nat} (hk : k < 14) (n z c v : Bool) : ck k n z c v = true := allB_get (allB_get (allB_get (allB_get (cnd.allN_get 14 all k hk) n) z) c) v
set_option maxRecDepth 100000 in
theorem oks : cnd.allN (fun k => goes k [small, mex.okF (mex.v 0)]) 14 = true := by
  simp only [cnd.allN, Bool.and_eq_true]
  exact ⟨ok13, ok12, ok11, ok10, ok9, ok8, ok7, ok6, ok5, ok4, ok3, ok2, ok1, ok0, trivial⟩
set_option maxRecDepth 100000 in
theorem bads : cnd.allN (fun k => goes k [small, mex.no (mex.okF (mex.v 0))]) 14 = true := by
  simp only [cnd.allN, Bool.and_eq_true]
  exact ⟨bad13, bad12, bad11, bad10, bad9, bad8, bad7, bad6, bad5, bad4, bad3, bad2, bad1, bad0, trivial⟩
end pas

set_option maxRecDepth 100000 in
theorem regsT_den (x : Fields) (C : List UInt8) (s : Int) {d : CoreD} (hd : d.Ok) (f : Nat → List Sc → Sc) (ab : Abs) : (pas.regsT.map (·.den ⟨vM x C s d, f, fun _ => undef, ab⟩)).map Sc.asInt = d.R := by
  obtain ⟨R, n, z, c, v, it, l⟩ := d
  have hlen := hd.len
  have hR := hd.R
  simp only at hlen hR
  match R, hlen, hR with
  | [r0, r1, r2, r3, r4, r5, r6, r7, r8, r9, r10, r11, r12, r13, r14, r15], _, hR =>
    have e : ∀ r ∈ [r0, r1, r2, r3, r4, r5, r6, r7, r8, r9, r10, r11, r12, r13, r14, r15], IntKind.u32.wrap r = r := by
      intro r hr
      have := u32_of (hR r hr)
      show r % 4294967296 = r
      omega
    simp only [List.mem_cons, List.not_mem_nil, or_false, forall_eq_or_imp, forall_eq] at e
    obtain ⟨e0, e1, e2, e3, e4, e5, e6, e7, e8, e9, e10, e11, e12, e13, e14, e15⟩ := e
    show [IntKind.u32.wrap r0, IntKind.u32.wrap r1, IntKind.u32.wrap r2, IntKind.u32.wrap r3, IntKind.u32.wrap r4, IntKind.u32.wrap r5, IntKind.u32.wrap r6, IntKind.u32.wrap r7, IntKind.u32.wrap r8, IntKind.u32.wrap r9, IntKind.u32.wrap r10, IntKind.u32.wrap r11, IntKind.u32.wrap r12, IntKind.u32.wrap r13, IntKind.u32.wrap r14, IntKind.u32.wrap r15] = _
    rw [e0, e1, e2, e3, e4, e5, e6, e7, e8, e9, e10, e11, e12, e13, e14, e15]

set_option maxRecDepth 100000 in
theorem pasS_ok {x : Fields} (hx : x.Ok) {d : CoreD} (hd : d.Ok) (w : World) {k : Nat} (hk : k < 14) {f : Nat} (hF : f = exe.fE ∨ f = exe.fX) : SpecOk (envL x [] 0 d w) f (pas.pasS k) := by
  have M := menv hx (C := []) (by simp) zero_has hd w
  have V : VarsOk (envL x [] 0 d w) := ⟨M.v, mF2_has⟩
  have N : NilOk (envL x [] 0 d w) := mch_nil (envL x [] 0 d w) (ownK w) rfl M.str
  intro args h pc y hpc hy
  unfold pas.pasS at hy
  split at hy
  · rename_i i s c m
    split at hy
    · rename_i ts hdec hts hok
      split at hy
      · rename_i n z c' v _ _ _ _
        split at hy
        · rename_i hlit
          simp only [Tree.get, Option.some.injEq] at hy
          subst hy
          rw [Bool.and_eq_true] at hlit
          obtain ⟨hta, hlit⟩ := hlit
          have hta := of_decide_eq_true hta
          have hlit : pas.holdLit k n z c' v = false := by simpa using hlit
          have hdec := of_decide_eq_true hdec
          have hok : Tr (envL x [] 0 d w) (mex.okF (mex.v 0)) := decideT_den hpc hok
          intro K w0 ι w' H hsc
          have hA := matchA_ok V N H hts
          obtain ⟨a, sz, C, D, mem, mv, ha, hsz, hR16, hRk, hit, ⟨F, hP⟩, hdl, eX, eS, eC, eD, iv', cv, li, lc, hvs, hiv, hcv⟩ := xs_flat hA
          subst hta
          have eR := regsT_den x [] 0 hd mF2 (mchAbs (ownK w))
          have hX : xsX ((pas.argT k n z c' v).map (·.den (envL x [] 0 d w))) = x := by obtain ⟨x0, x1, x2, x3, x4, x5, x6, x7, b⟩ := x; rfl
          have hD : xsD ((pas.argT k n z c' v).map (·.den (envL x [] 0 d w))) = pas.dat k n z c' v d.R d.l := by
            unfold xsD pas.dat
            have e1 : ((((pas.argT k n z c' v).map (·.den (envL x [] 0 d w))).drop 11).take 16).map Sc.asInt = d.R := eR
            rw [e1]
            have e2 : get ((pas.argT k n z c' v).map (·.den (envL x [] 0 d w))) 32 = clSc d.l := rfl
            rw [e2, scCl_cl]
            rfl
          have hS : sz = 2 := by rw [← eS]; rfl
          have hC : C.asStr = [] := by rw [← eC]; rfl
          have hXa : a = x := eX.symm.trans hX
          have hDa : D = pas.dat k n z c' v d.R d.l := eD.symm.trans hD
          subst hXa; subst hS
          rcases hP with ⟨_, l, A, cap, h1, h2, h3, h4, h5, _⟩ | ⟨hk2, _⟩
          · have hl : D.l = l := by rw [hdl, h1, scCl_cl]
            have hd2 : D.Ok := ⟨hR16, hRk, hit, by rw [hl]; exact h4⟩
            simp only [List.map_append, List.map_cons, List.map_nil] at hvs
            obtain ⟨q1, q2⟩ := List.append_inj hvs (by rw [List.length_map, hdec.1, li])
            simp only [List.cons_append, List.nil_append, List.cons.injEq] at q2
            obtain ⟨q2, q3, q4⟩ := q2
            rw [hC] at q3
            obtain ⟨D', o, hO⟩ := exec_all ha (C := []) (by simp) (s := 2) hsz hd2 (laid_hr H) (by rw [hl]; exact h3) (by rw [hl]; exact h5.1)
            have E : ExecAns f a 2 [] D D' o := by
              rcases hF with rfl | rfl
              · exact hO.e
              · exact hO.r
            have hck := pas.ck_ok hk n z c' v
            unfold pas.ck at hck
            simp only [Bool.and_eq_true, decide_eq_true_eq] at hck
            obtain ⟨⟨k1, k2⟩, k3⟩ := hck
            rw [beq_iff_eq, hlit] at k2
            obtain ⟨ho, hD'⟩ := hO.pass hok rfl (by rw [hDa]; exact k1) (by rw [hDa]; intro hh; have hh : (mex.holds.den (env0 litF [] 2 (pas.dat k n z c' v [] []))).asBool = true := hh; rw [k2] at hh; cases hh)
            subst ho
            have E := E (w := w') (laid_hr H) A cap (by rw [hl]; exact h3)
            have hargs : ([SVal.agg i, s, .str c, .agg m].map (·.conc (envL a [] 0 d w) ι)).toArray = #[a.val, .int .i64 2, .string ⟨#[]⟩, D.val (.slice A D.l.length cap)] := by
              have e1 : (SVal.agg i).conc (envL a [] 0 d w) ι = a.val := by rw [← hiv, ← q1]; simp only [SVal.conc, lstS_conc]
              have e2 : (SVal.agg m).conc (envL a [] 0 d w) ι = D.val (.slice A D.l.length cap) := by rw [hl, ← h2, ← hcv, ← q4]; simp only [SVal.conc, lstS_conc]
              simp only [List.map_cons, List.map_nil, e1, e2, q2, q3]
            rw [hargs]
            have et : (Tm.app 700 (.cons (mex.v 31) .nil)).den (envL a [] 0 d w) = clSc (newL d.l) := by
              show clSc (newL (scCl (clSc d.l))) = _
              rw [scCl_cl]
            have hDl : D'.l = newL d.l := by
              rw [hD', hDa]
              show scCl (clSc (newL (scCl (clSc d.l)))) = _
              rw [scCl_cl, scCl_cl]
            refine core_answer (d' := D') rfl H hpc rfl ?_ (by rw [et, hDl]) hO.ok.l hO.len hO.canon E
            rw [hD', hDa, et]
            obtain ⟨R, dn, dz, dc, dv, dit, dl⟩ := d
            have hlen := hd.len
            simp only at hlen
            match R, hlen with
            | [r0, r1, r2, r3, r4, r5, r6, r7, r8, r9, r10, r11, r12, r13, r14, r15], _ =>
              have ei : (exe.passed.it.den (env0 a [] 2 (pas.dat k n z c' v [r0, r1, r2, r3, r4, r5, r6, r7, r8, r9, r10, r11, r12, r13, r14, r15] dl))).asInt = 0 := k3
              unfold gotD
              rw [ei]
              have em : exe.passed.t.den (env0 a [] 2 (pas.dat k n z c' v [r0, r1, r2, r3, r4, r5, r6, r7, r8, r9, r10, r11, r12, r13, r14, r15] dl)) = clSc (newL dl) := by
                show clSc (newL (scCl (clSc dl))) = _
                rw [scCl_cl]
              rw [em]
              rfl
          · omega
        · simp [Tree.get] at hy
      · simp [Tree.get] at hy
    · simp [Tree.get] at hy
  · simp [Tree.get] at hy

set_option maxRecDepth 100000 in
theorem pas_ok {x : Fields} (hx : x.Ok) {d : CoreD} (hd : d.Ok) (w : World) (Aw : AwakeM) {k : Nat} (hk : k < 14) : (pas.S k).Ok (envL x [] 0 d w) (mex.cxm false) := by
  have M := menv hx (C := []) (by simp) zero_has hd w
  have V : VarsOk (envL x [] 0 d w) := ⟨M.v, mF2_has⟩
  have N : NilOk (envL x [] 0 d w) := mch_nil (envL x [] 0 d w) (ownK w) rfl M.str
  have h7 : ∀ ss, (envL x [] 0 d w).f 700 ss = newSc ss := fun ss => rfl
  have hf : ∀ g, 820 ≤ g → g ≤ 842 → (envL x [] 0 d w).f g = mF2 g := fun g _ _ => rfl
  have rn : ∀ k, k < 100 → SpecOk (envL x [] 0 d w) 16 (specNew [.dat k] 2 (fun t => .app 700 t)) := fun k hk => specNew_ok V N (fun ss vs w' h => rnew_spec rfl h7 k hk ss vs w' h)
  have hx1 : ∀ f, f = exe.fE ∨ f = exe.fX → SpecOk (envL x [] 0 d w) f (orS (pas.pasS k) xls.exec) := fun f hF => orS_ok (pasS_ok hx hd w hk hF) (orS_ok (xsS_ok V N rfl hf (by omega) hF) (xsS_ok V N rfl hf (by omega) hF))
  intro f sp h
  have hm := findTab_mem h
  simp only [pas.tab, List.mem_cons, List.not_mem_nil, or_false, Prod.mk.injEq] at hm
  rcases hm with ⟨rfl, rfl⟩ | ⟨rfl, rfl⟩ | ⟨rfl, rfl⟩ | ⟨rfl, rfl⟩ | ⟨rfl, rfl⟩ | ⟨rfl, rfl⟩
  · exact hx1 _ (.inl rfl)
  · exact hx1 _ (.inr rfl)
  · exact orS_ok (rn 1 (by omega)) (rn 2 (by omega))
  · exact same_spec rfl V rfl M.str
  · exact chk_call' chk.all_r V ⟨rfl, rfl⟩
  · exact awakeS_ok Aw

set_option maxRecDepth 100000 in
theorem pas_body (k : Nat) : ∀ f, pas.S k f ≠ none → ∃ fn c, cx.P.funcs[f]? = some fn ∧ fn.body = some c := by
  have hB : ((pas.tab 0).map Prod.fst).all mBody = true := by kernel_rfl
  intro f h
  match hs : pas.S k f with
  | none => exact (h hs).elim
  | some s =>
    have hm := findTab_mem hs
    have hb := List.all_eq_true.1 hB f (show f ∈ (pas.tab k).map Prod.fst from List.mem_map.2 ⟨_, hm, rfl⟩)
    unfold mBody at hb
    split at hb
    · rename_i fn hfn
      exact ⟨fn, _, hfn, (Option.some_get hb).symm⟩
    · cases hb

set_option maxRecDepth 100000 in
theorem passes_at (Aw : AwakeM) {x : Fields} (hx : x.Ok) {d : CoreD} (hd : d.Ok) (hl : d.l.length ≤ 100) {w : World} (hw : Laid w) {A : Option Addr} {cap : Nat} (hA : ClAt w w.heap.size A d.l) {k : Nat} (hk : k < 14) {l : List Tm} (hT : AllT (envL x [] 0 d w) l) (hg : pas.goes k l = true) :
    Calls Tryz.prog 7 #[x.val, d.val (.slice A d.l.length cap), .int .i64 k] w fun e w' => e = .returned (.bool true) ∧ Below w.heap.size w w' := by
  unfold pas.goes at hg
  obtain ⟨y, h1, h2⟩ := isTT_get (envL x [] 0 d w) _ hg
  have hc := call_ok (cxm_ok false) (pas_ok hx hd w Aw hk) (pas_body k) (conj_den _ _ hT) h1
  have hsc : ∀ v ∈ pas.args (.num k), v.sc mex.heap0.length = true := by
    intro v hv
    simp only [pas.args, List.mem_cons, List.not_mem_nil, or_false] at hv
    rcases hv with rfl | rfl | rfl <;> rfl
  have := hc (ownK w) w _ w (heap0_hrG mF2 hd hw (cap := cap) hA (by omega)) hsc
  have e1 : (pas.args (.num k)).map (·.conc (envL x [] 0 d w) (ιM ⟨.slice A d.l.length cap, rfl⟩)) = [x.val, d.val (.slice A d.l.length cap), .int .i64 k] := by
    have e : mex.core.conc (envL x [] 0 d w) (ιM ⟨.slice A d.l.length cap, rfl⟩) = d.val (.slice A d.l.length cap) := core_concG x [] 0 hd mF2 _ _
    simp only [pas.args, List.map_cons, List.map_nil, e]
    rfl
  rw [e1] at this
  refine Calls.mono (R := _) this ?_
  rintro e w' ⟨ι', _, _, H', _, _, rfl⟩
  rw [h2]
  exact ⟨by simp [SVal.conc, Tm.den], H'.grown⟩

set_option maxRecDepth 100000 in
theorem heap0_hrLs {x : Fields} {C : List UInt8} {s : Int} {d : CoreD} {w : World} (hw : Laid w) {A : Option Addr} {cap : Nat} : HR ((⟨vM x C s d, mF2, fun _ => undef, lenAbs⟩ : Env)) cx.globs (ownK w) w (ιM ⟨.slice A d.l.length cap, rfl⟩) mex.heap0 w := by
  have H0 := start ((⟨vM x C s d, mF2, fun _ => undef, lenAbs⟩ : Env)) hw (fun q h => h.elim)
  refine ⟨rfl, rfl, rfl, Nat.le_refl _, fun _ _ => rfl, fun _ h => h, fun q h => h.elim, ?_, ?_, fun g cs hg => ?_⟩
  · intro n b hb
    have hn : n = 0 := by
      have := (List.getElem?_eq_some_iff.1 hb).1
      simp [mex.heap0] at this
      exact this
    subst hn
    simp only [mex.heap0, List.getElem?_cons_zero, Option.some.injEq] at hb
    subst hb
    refine ⟨fun q hq => hq.elim, ?_, rfl⟩
    unfold Blk.Ok
    exact ⟨rfl, fun q hq => hq, fun _ => False, ⟨by omega, ⟨d.l, A, cap, rfl, rfl⟩, rfl⟩, fun q h => h.elim⟩
  · intro n m b c hb hc q hq
    exact hq.elim
  · obtain ⟨h1, h2, arr, t, fz, h3, h4⟩ := H0.globs g cs hg
    exact ⟨h1, h2, arr, t, fz, h3, by rw [h4]; exact (SVal.conc_ext (n := 0) (fun m hm => by omega) cs h2).2.symm⟩

set_option maxRecDepth 100000 in
/-- The guard's ways. -/
theorem passes_out (Aw : AwakeM) {x : Fields} {s : Int} {d : CoreD} (hd : d.Ok) {w : World} (hw : Laid w) {A : Option Addr} {cap : Nat} {l : List Tm} (hT : AllT (⟨vM x [] s d, mF2, fun _ => undef, lenAbs⟩ : Env) l)
    (hg : isTT (callT (mex.cxm false) mxl.S (run (mex.cxm false) mxl.S 3000) 7 (pas.args (mex.v 32)) mex.heap0 (l.foldr mkAnd (.bit true))) = true) :
    Calls Tryz.prog 7 #[x.val, d.val (.slice A d.l.length cap), .int .i64 s] w fun e w' => e = .returned (.bool true) ∧ Below w.heap.size w w' := by
  obtain ⟨y, h1, h2⟩ := isTT_get (⟨vM x [] s d, mF2, fun _ => undef, lenAbs⟩ : Env) _ hg
  have hS : mxl.S.Ok (⟨vM x [] s d, mF2, fun _ => undef, lenAbs⟩ : Env) (mex.cxm false) := fun f sp h => mxl_ok Aw _ f sp h
  have hc := call_ok (cxm_ok false) hS mxl_body (conj_den _ _ hT) h1
  have hsc : ∀ v ∈ pas.args (mex.v 32), v.sc mex.heap0.length = true := by
    intro v hv
    simp only [pas.args, List.mem_cons, List.not_mem_nil, or_false] at hv
    rcases hv with rfl | rfl | rfl <;> rfl
  have := hc (ownK w) w _ w (heap0_hrLs hw (A := A) (cap := cap)) hsc
  have e1 : (pas.args (mex.v 32)).map (·.conc (⟨vM x [] s d, mF2, fun _ => undef, lenAbs⟩ : Env) (ιM ⟨.slice A d.l.length cap, rfl⟩)) = [x.val, d.val (.slice A d.l.length cap), .int .i64 s] := by
    have e : mex.core.conc (⟨vM x [] s d, mF2, fun _ => undef, lenAbs⟩ : Env) (ιM ⟨.slice A d.l.length cap, rfl⟩) = d.val (.slice A d.l.length cap) := core_concG x [] s hd mF2 _ _
    simp only [pas.args, List.map_cons, List.map_nil, e]
    rfl
  rw [e1] at this
  refine Calls.mono (R := _) this ?_
  rintro e w' ⟨ι', _, _, H', _, _, rfl⟩
  rw [h2]
  exact ⟨by simp [SVal.conc, Tm.den], H'.grown⟩

set_option maxRecDepth 100000 in
theorem pas.goes_ok {x : Fields} {d : CoreD} {w : World} {k : Nat} (hk : k < 14) (hl : Tr (envL x [] 0 d w) pas.small) : ∃ l, AllT (envL x [] 0 d w) l ∧ pas.goes k l = true := by
  by_cases h : Tr (envL x [] 0 d w) (mex.okF (mex.v 0))
  · exact ⟨_, allT_cons hl (allT_cons h (allT_nil _)), cnd.allN_get 14 pas.oks k hk⟩
  · exact ⟨_, allT_cons hl (allT_cons ((tr_not _).2 h) (allT_nil _)), cnd.allN_get 14 pas.bads k hk⟩

set_option maxRecDepth 100000 in
theorem passes_any (Aw : AwakeM) {x : Fields} (hx : x.Ok) {d : CoreD} (hd : d.Ok) {s : Int} {w : World} (hw : Laid w) {A : Option Addr} {cap : Nat} (hA : ClAt w w.heap.size A d.l) :
    Calls Tryz.prog 7 #[x.val, d.val (.slice A d.l.length cap), .int .i64 s] w fun e w' => e = .returned (.bool true) ∧ Below w.heap.size w w' := by
  have e3 : ∀ ρ : Env, iv ρ (mex.num 100) = 100 := fun _ => rfl
  have e0 : ∀ ρ : Env, iv ρ (mex.num 0) = 0 := fun _ => rfl
  have e13 : ∀ ρ : Env, iv ρ (mex.num 13) = 13 := fun _ => rfl
  have e4 : ∀ f ab s, iv ⟨vM x [] s d, f, fun _ => undef, ab⟩ (.op1 .llen (mex.v 31)) = (d.l.length : Int) := by
    intro f ab s
    show ((clSc d.l).asList.length : Int) = _
    rw [clSc_len]
  have e5 : ∀ f ab s, iv ⟨vM x [] s d, f, fun _ => undef, ab⟩ (mex.v 32) = s := fun _ _ _ => rfl
  by_cases hl : d.l.length ≤ 100
  · by_cases h0 : s < 0
    · refine passes_out Aw hd hw (allT_cons ((tr_le _ _).2 ?_) (allT_cons ((tr_lt _ _).2 ?_) (allT_nil _))) pas.neg
      · rw [e4, e3]; omega
      · rw [e5, e0]; omega
    · by_cases h1 : 13 < s
      · refine passes_out Aw hd hw (allT_cons ((tr_le _ _).2 ?_) (allT_cons ((tr_not _).2 fun h => ?_) (allT_cons ((tr_lt _ _).2 ?_) (allT_nil _)))) pas.beyond
        · rw [e4, e3]; omega
        · have := (tr_lt _ _).1 h
          rw [e5, e0] at this; omega
        · rw [e5, e13]; omega
      · obtain ⟨k, rfl⟩ := Int.eq_ofNat_of_zero_le (show 0 ≤ s by omega)
        obtain ⟨l, hT, hg⟩ := pas.goes_ok (x := x) (d := d) (w := w) (k := k) (by omega) ((tr_le _ _).2 (by rw [show iv (envL x [] 0 d w) (.op1 .llen (mex.v 31)) = (d.l.length : Int) from e4 _ _ _, e3]; omega))
        exact passes_at Aw hx hd hl hw hA (by omega) hT hg
  · refine passes_out Aw hd hw (allT_cons ((tr_not _).2 fun h => ?_) (allT_nil _)) pas.large
    have := (tr_le _ _).1 h
    rw [e4, e3] at this; omega

end Go.Proofs.YthbdmlcbdibiiaaGreatDoor
