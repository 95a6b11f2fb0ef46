/- For the seat: an instruction as an argument, for the decider; how many ones a number has is known by a sign. -/
import Derived.Test.YtdabbjjnolkelaaIns
import Derived.Test.YtdabbjjnolkelaaSxRg
namespace Go.Proofs.Ytdabbjjnolkelaa
open Go.Sx Go.ChangeShapes Go.WideShapes Go.RowKit Go.Joins Go.Deep

noncomputable def onesTree : Tree Res := callT cx noS (run cx noS 400) 32 [.int .u64 (.var 0)] [] (.bit true)
noncomputable def onesT : Tm := (leafInt .i64 onesTree).getD .nil
set_option maxRecDepth 100000 in
theorem ones_some : (leafInt .i64 onesTree).isSome = true := by kernel_rfl
set_option maxRecDepth 100000 in
theorem ones_head : onesT.headK .i64 = true := by kernel_rfl
theorem ones_run : leafInt .i64 onesTree = some onesT := by
  have := ones_some
  unfold onesT
  cases h : leafInt .i64 onesTree with
  | none => rw [h] at this; cases this
  | some t => rfl

def f0 (_ : Nat) (_ : List Sc) : Sc := .int 0

/-- What the signs stand for. -/
noncomputable def F (g : Nat) (ss : List Sc) : Sc :=
  match Nat.beq g 900 with
  | true => .int (onesT.den (envOf f0 (ss.map Sc.norm))).asInt
  | false => match Nat.beq g 999 with
    | true => .int (popI (ss.getD 0 (.int 0)).asInt)
    | false => .int 0

theorem F_has (g : Nat) (ss : List Sc) : kHas .i64 (F g ss).asInt := by
  unfold F
  split
  · exact headK_ok _ _ _ ones_head
  · split
    · exact popI_has _
    · show -2 ^ 63 ≤ (0 : Int) ∧ (0 : Int) < 2 ^ 63; omega

structure Fields.Ok (x : Fields) : Prop where
  h0 : kHas .i64 x.x0
  h1 : kHas .i64 x.x1
  h2 : kHas .i64 x.x2
  h3 : kHas .i64 x.x3
  h4 : kHas .i64 x.x4
  h5 : kHas .i64 x.x5
  h6 : kHas .i64 x.x6
  h7 : kHas .i64 x.x7

noncomputable def Fields.envF (x : Fields) : Env := envOf F [.int x.x0, .int x.x1, .int x.x2, .int x.x3, .int x.x4, .int x.x5, .int x.x6, .int x.x7, .bool x.b, F 900 [.int x.x7]]

theorem zero_has : kHas .i64 0 := by show -2 ^ 63 ≤ (0 : Int) ∧ (0 : Int) < 2 ^ 63; omega

theorem envF_ok {x : Fields} (h : x.Ok) : VarsOk x.envF := by
  refine ⟨?_, F_has⟩
  intro i
  match i with
  | 0 => exact h.h0
  | 1 => exact h.h1
  | 2 => exact h.h2
  | 3 => exact h.h3
  | 4 => exact h.h4
  | 5 => exact h.h5
  | 6 => exact h.h6
  | 7 => exact h.h7
  | 8 => exact zero_has
  | 9 => exact F_has 900 [.int x.x7]
  | n + 10 => exact zero_has

def sg : Sg := { defs := fun _ => none, ufs := [(900, [7], 9)], pop := 999 }

theorem sg_ok (x : Fields) : sg.Ok x.envF := by
  refine ⟨?_, ?_, ?_⟩
  · intro g t h; cases h
  · intro g xs y hm ss he
    simp only [sg, List.mem_cons, List.not_mem_nil, or_false, Prod.mk.injEq] at hm
    obtain ⟨rfl, rfl, rfl⟩ := hm
    show F 900 ss = F 900 [.int x.x7]
    have : ss.map Sc.norm = [Sc.int x.x7].map Sc.norm := by
      match ss, he with
      | [s], he =>
        have h7 : s.asInt = (x.envF.v 7).asInt := by simpa using he
        have h7' : s.asInt = x.x7 := h7
        simp [Sc.norm, h7']
      | [], he => simp at he
      | _ :: _ :: _, he => simp at he
    unfold F
    rw [this]
  · intro s _
    rfl

/-- 'awake' answers true; how many ones. -/
def bareS : Specs := fun f => match f with
  | 13 => some (specOf .nil (fun _ => .bool (.bit true)))
  | 32 => some (specR (.cons (.int .u64 (.var 0)) .nil) (fun t => .int .i64 (.app 900 t)))
  | _ => none

theorem ones_call {ρ : Env} (V : VarsOk ρ) (hF : ρ.f = F) : ∀ args h pc x, (pc.den ρ).asBool = true → (specR (.cons (.int .u64 (.var 0)) .nil) (fun t => .int .i64 (.app 900 t)) args h pc).get ρ = some x → CallOk ρ cx.globs cx.P 32 args h x := by
  refine specR_ok V noGlobs rfl (by intro u hu; simp [SVal.toList] at hu; subst hu; rfl) (fun _ => rfl) ?_
  intro L hL _
  obtain ⟨x, h1, h2⟩ := leafInt_get (envOf f0 (L.map Sc.norm)) ones_run
  refine ⟨envOf f0 (L.map Sc.norm), x, call_ok cxok (noS_ok _ _) (noS_body _) rfl h1, ?_, ?_⟩
  · intro ι
    match L, hL with
    | [s], _ => simp [SVal.concL, SVal.conc, Tm.den, envOf, Sc.norm]
  · intro t ι ι' ht
    rw [h2]
    simp only [SVal.conc, Tm.den, ht, hF]
    rfl

theorem bareS_ok {ρ : Env} (V : VarsOk ρ) (hF : ρ.f = F) : bareS.Ok ρ cx := by
  intro f sp h
  unfold bareS at h
  split at h
  · simp only [Option.some.injEq] at h; subst h; exact awake_call ρ
  · simp only [Option.some.injEq] at h; subst h; exact ones_call V hF
  · cases h

theorem bareS_body : ∀ f, bareS f ≠ none → ∃ fn c, cx.P.funcs[f]? = some fn ∧ fn.body = some c := by
  intro f h
  unfold bareS at h
  split at h
  · exact body13
  · exact ⟨Try.f32, _, Try.func32, rfl⟩
  · exact (h rfl).elim

def kn0 : Kn := ⟨[], [], [], [], [0, 1, 2, 3, 4, 5, 6, 7, 9]⟩

theorem kn0_ok {x : Fields} (h : x.Ok) : Sats x.envF kn0 := by
  refine Sats.start (envF_ok h) _ ?_
  intro i hi
  simp only [List.mem_cons, List.not_mem_nil, or_false] at hi
  rcases hi with rfl | rfl | rfl | rfl | rfl | rfl | rfl | rfl | rfl
  all_goals first | exact ⟨_, rfl⟩

theorem argF_conc (x : Fields) {o c n i : Tm} (ho : o.den x.envF = .int x.x0) (hc : c.den x.envF = .int x.x1) (hn : n.den x.envF = .int x.x3) (hi : i.den x.envF = .int x.x5) (ι : Nm) : (argT o c n i).conc x.envF ι = x.val := by
  simp only [argT, SVal.conc, SVal.concL, ho, hc, hn, hi, Fields.val]
  rfl

/-- A law of an instruction, walked at some of its inputs, and decided. -/
theorem law_insP {f : FuncId} {x : Fields} (hx0 : x.Ok) {o c n i : Tm} (ho : o.den x.envF = .int x.x0) (hc : c.den x.envF = .int x.x1) (hn : n.den x.envF = .int x.x3) (hi : i.den x.envF = .int x.x5) {pc : Tm} (hpc : (pc.den x.envF).asBool = true)
    (hx : pxTree sg (callT cx bareS (run cx bareS 400) f [argT o c n i] [] pc) kn0 = true) (w : World) : Calls Try.prog f #[x.val] w fun e w' => e = .returned (.bool true) ∧ Grown w w' := by
  have := law_px (ρ := x.envF) cxok (bareS_ok (envF_ok hx0) rfl) bareS_body (by intro v hv; simp at hv; subst hv; rfl) hpc (sg_ok x) (kn0_ok hx0) hx w (HR.start _ w ι0)
  rw [List.map_cons, List.map_nil, argF_conc x ho hc hn hi] at this
  exact this

theorem open_insR {H : Type} {enc : TypeId × Value → H} {w : World} {base : Nat} {spare : Nat → Bool} {held : Bool} {r : Reach} {b0 : Nat} {v : Value} {d : DataW H} {p : List MemPlace}
    (hv : Value.okWide Try.prog w r b0 29 v) (h : DataW.Trod enc Try.prog w base spare held 29 v d p) :
    ∃ x : Fields, x.Ok ∧ v = x.val ∧ p = [] ∧ ∀ (w' : World) (base' : Nat) (spare' : Nat → Bool) (held' : Bool), DataW.Trod enc Try.prog w' base' spare' held' 29 v d [] := by
  obtain ⟨vs, rfl, hl, hf, hp, ht⟩ := open_flat (ks := [some .i64, some .i64, some .i64, some .i64, some .i64, some .i64, some .i64, some .i64, none]) Try.underlying29 (by kernel_rfl) (by kernel_rfl) (by kernel_rfl) hv h
  match vs, hl with
  | [v0, v1, v2, v3, v4, v5, v6, v7, v8], _ =>
    obtain ⟨_, e0, n0, rfl, w0⟩ := hf 0 _ rfl
    obtain ⟨_, e1, n1, rfl, w1⟩ := hf 1 _ rfl
    obtain ⟨_, e2, n2, rfl, w2⟩ := hf 2 _ rfl
    obtain ⟨_, e3, n3, rfl, w3⟩ := hf 3 _ rfl
    obtain ⟨_, e4, n4, rfl, w4⟩ := hf 4 _ rfl
    obtain ⟨_, e5, n5, rfl, w5⟩ := hf 5 _ rfl
    obtain ⟨_, e6, n6, rfl, w6⟩ := hf 6 _ rfl
    obtain ⟨_, e7, n7, rfl, w7⟩ := hf 7 _ rfl
    obtain ⟨_, e8, b, rfl⟩ := hf 8 _ rfl
    simp only [List.getElem?_cons_zero, List.getElem?_cons_succ, Option.some.injEq] at e0 e1 e2 e3 e4 e5 e6 e7 e8
    subst e0 e1 e2 e3 e4 e5 e6 e7 e8
    exact ⟨⟨n0, n1, n2, n3, n4, n5, n6, n7, b⟩, ⟨wf_has w0, wf_has w1, wf_has w2, wf_has w3, wf_has w4, wf_has w5, wf_has w6, wf_has w7⟩, rfl, hp, ht⟩

end Go.Proofs.Ytdabbjjnolkelaa
