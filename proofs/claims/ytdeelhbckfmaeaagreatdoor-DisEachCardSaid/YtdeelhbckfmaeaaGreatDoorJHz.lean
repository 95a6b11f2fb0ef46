/- For the seat: texts joined: Joi, HBase, HOne. -/
import Derived.Shelf.Strings.OnBuilder
import Derived.Ground.NamesProg
import Derived.Test.YtdeelhbckfmaeaaGreatDoorProg
import Derived.Test.YtdeelhbckfmaeaaGreatDoorSxMemoE
import Derived.Test.YtdeelhbckfmaeaaGreatDoorRows
import Derived.ChangeVars
import Derived.RowKit
import Derived.WalkKit
import Derived.Recover
/-
  DERIVED: THE SHELF's CONTRACTS AT THIS DUMP, IN PLAIN WORDS (tools/lay-plain.mjs out of 'TryzJoinSrc.lean', which tools/lay-shelf.mjs wrote): THE SAME DECLARATIONS UNDER THE SAME NAMES: 'import', 'namespace', 'open', 'def', 'theorem' AND NOTHING ELSE: no command of the shelf's: FOR A HAND-IN. Each laying: the table of numbers ('.._ren') and one theorem, a field a fact of the dump's own or the kernel's comparison; each contract: ONE APPLICATION.
-/
namespace Go.Proofs
open Go.Shelf
def Tryz.lays156_ren : Go.Shelf.Ren := ⟨fun | 156 => 119 | 165 => 180 | 166 => 68 | 169 => 69 | 240 => 122 | 241 => 267 | 276 => 187 | 277 => 344 | n => n, fun | 31 => 88 | 9 => 9 | 3 => 3 | 4 => 4 | 0 => 0 | 20 => 20 | 72 => 107 | 76 => 112 | 70 => 105 | 37 => 35 | 75 => 111 | 127 => 170 | 164 => 234 | 5 => 5 | 80 => 114 | n => n, fun | n => n⟩
theorem Tryz.lays156 : Go.Proofs.Lays.n156 Tryz.prog Tryz.lays156_ren := {
  mixed := by kernel_rfl
  f156 := Tryz.func119.trans (congrArg some (by kernel_rfl))
  f165 := Tryz.func180.trans (congrArg some (by kernel_rfl))
  f166 := Tryz.func68.trans (congrArg some (by kernel_rfl))
  f169 := Tryz.func69.trans (congrArg some (by kernel_rfl))
  f240 := Tryz.func122.trans (congrArg some (by kernel_rfl))
  f241 := Tryz.func267.trans (congrArg some (by kernel_rfl))
  f276 := Tryz.func187.trans (congrArg some (by kernel_rfl))
  f277 := Tryz.func344.trans (congrArg some (by kernel_rfl))
  t0 := Tryz.underlying0
  a0 := Tryz.isAgg0
  z0 := Tryz.sizeOf0
  v0 := Tryz.zeroValue0
  t3 := Tryz.underlying3
  a3 := Tryz.isAgg3
  z3 := Tryz.sizeOf3
  v3 := Tryz.zeroValue3
  t4 := Tryz.underlying4
  a4 := Tryz.isAgg4
  z4 := Tryz.sizeOf4
  v4 := Tryz.zeroValue4
  t9 := Tryz.underlying9
  a9 := Tryz.isAgg9
  z9 := Tryz.sizeOf9
  v9 := Tryz.zeroValue9
  t20 := Tryz.underlying20
  a20 := Tryz.isAgg20
  z20 := Tryz.sizeOf20
  v20 := Tryz.zeroValue20
  t31 := Tryz.underlying88
  a31 := Tryz.isAgg88
  z31 := Tryz.sizeOf88
  v31 := Tryz.zeroValue88
  t37 := Tryz.underlying35
  a37 := Tryz.isAgg35
  z37 := Tryz.sizeOf35
  v37 := Tryz.zeroValue35
  t70 := Tryz.underlying105
  a70 := Tryz.isAgg105
  z70 := Tryz.sizeOf105
  v70 := Tryz.zeroValue105
  t72 := Tryz.underlying107
  a72 := Tryz.isAgg107
  z72 := Tryz.sizeOf107
  v72 := Tryz.zeroValue107
  t75 := Tryz.underlying111
  a75 := Tryz.isAgg111
  z75 := Tryz.sizeOf111
  v75 := Tryz.zeroValue111
  t76 := Tryz.underlying112
  a76 := Tryz.isAgg112
  z76 := Tryz.sizeOf112
  v76 := Tryz.zeroValue112
  t127 := Tryz.underlying170
  a127 := Tryz.isAgg170
  z127 := Tryz.sizeOf170
  v127 := Tryz.zeroValue170
  t164 := Tryz.underlying234
  a164 := Tryz.isAgg234
  z164 := Tryz.sizeOf234
  v164 := Tryz.zeroValue234 }
theorem Tryz.Builder_Extra_156 : Builder.Extra Tryz.prog Tryz.lays156_ren := {
  sizeBuilder := by kernel_rfl
  liesBuilder := by kernel_rfl
  t5 := Tryz.underlying5
  a5 := Tryz.isAgg5
  z5 := Tryz.sizeOf5
  v5 := Tryz.zeroValue5
  infoByte := by kernel_rfl
  cellsByte := by kernel_rfl
  sizeByte := by kernel_rfl
  neB5 := by decide }
end Go.Proofs
/- For the seat: the executor over its program: literal data. -/
namespace Go.Proofs.YtdeelhbckfmaeaaGreatDoor
open Go.Sx Go.RowKit

namespace gx
def spaceS : SVal := .ofList [.int .u8 (.num 0), .int .u8 (.num 0), .int .u8 (.num 0), .int .u8 (.num 0), .int .u8 (.num 0), .int .u8 (.num 0), .int .u8 (.num 0), .int .u8 (.num 0), .int .u8 (.num 0), .int .u8 (.num 1), .int .u8 (.num 1), .int .u8 (.num 1), .int .u8 (.num 1), .int .u8 (.num 1), .int .u8 (.num 0), .int .u8 (.num 0), .int .u8 (.num 0), .int .u8 (.num 0), .int .u8 (.num 0), .int .u8 (.num 0), .int .u8 (.num 0), .int .u8 (.num 0), .int .u8 (.num 0), .int .u8 (.num 0), .int .u8 (.num 0), .int .u8 (.num 0), .int .u8 (.num 0), .int .u8 (.num 0), .int .u8 (.num 0), .int .u8 (.num 0), .int .u8 (.num 0), .int .u8 (.num 0), .int .u8 (.num 1), .int .u8 (.num 0), .int .u8 (.num 0), .int .u8 (.num 0), .int .u8 (.num 0), .int .u8 (.num 0), .int .u8 (.num 0), .int .u8 (.num 0), .int .u8 (.num 0), .int .u8 (.num 0), .int .u8 (.num 0), .int .u8 (.num 0), .int .u8 (.num 0), .int .u8 (.num 0), .int .u8 (.num 0), .int .u8 (.num 0), .int .u8 (.num 0), .int .u8 (.num 0), .int .u8 (.num 0), .int .u8 (.num 0), .int .u8 (.num 0), .int .u8 (.num 0), .int .u8 (.num 0), .int .u8 (.num 0), .int .u8 (.num 0), .int .u8 (.num 0), .int .u8 (.num 0), .int .u8 (.num 0), .int .u8 (.num 0), .int .u8 (.num 0), .int .u8 (.num 0), .int .u8 (.num 0), .int .u8 (.num 0), .int .u8 (.num 0), .int .u8 (.num 0), .int .u8 (.num 0), .int .u8 (.num 0), .int .u8 (.num 0), .int .u8 (.num 0), .int .u8 (.num 0), .int .u8 (.num 0), .int .u8 (.num 0), .int .u8 (.num 0), .int .u8 (.num 0), .int .u8 (.num 0), .int .u8 (.num 0), .int .u8 (.num 0), .int .u8 (.num 0), .int .u8 (.num 0), .int .u8 (.num 0), .int .u8 (.num 0), .int .u8 (.num 0), .int .u8 (.num 0), .int .u8 (.num 0), .int .u8 (.num 0), .int .u8 (.num 0), .int .u8 (.num 0), .int .u8 (.num 0), .int .u8 (.num 0), .int .u8 (.num 0), .int .u8 (.num 0), .int .u8 (.num 0), .int .u8 (.num 0), .int .u8 (.num 0), .int .u8 (.num 0), .int .u8 (.num 0), .int .u8 (.num 0), .int .u8 (.num 0), .int .u8 (.num 0), .int .u8 (.num 0), .int .u8 (.num 0), .int .u8 (.num 0), .int .u8 (.num 0), .int .u8 (.num 0), .int .u8 (.num 0), .int .u8 (.num 0), .int .u8 (.num 0), .int .u8 (.num 0), .int .u8 (.num 0), .int .u8 (.num 0), .int .u8 (.num 0), .int .u8 (.num 0), .int .u8 (.num 0), .int .u8 (.num 0), .int .u8 (.num 0), .int .u8 (.num 0), .int .u8 (.num 0), .int .u8 (.num 0), .int .u8 (.num 0), .int .u8 (.num 0), .int .u8 (.num 0), .int .u8 (.num 0), .int .u8 (.num 0), .int .u8 (.num 0), .int .u8 (.num 0), .int .u8 (.num 0), .int .u8 (.num 0), .int .u8 (.num 0), .int .u8 (.num 0), .int .u8 (.num 0), .int .u8 (.num 0), .int .u8 (.num 0), .int .u8 (.num 0), .int .u8 (.num 0), .int .u8 (.num 0), .int .u8 (.num 0), .int .u8 (.num 0), .int .u8 (.num 0), .int .u8 (.num 0), .int .u8 (.num 0), .int .u8 (.num 0), .int .u8 (.num 0), .int .u8 (.num 0), .int .u8 (.num 0), .int .u8 (.num 0), .int .u8 (.num 0), .int .u8 (.num 0), .int .u8 (.num 0), .int .u8 (.num 0), .int .u8 (.num 0), .int .u8 (.num 0), .int .u8 (.num 0), .int .u8 (.num 0), .int .u8 (.num 0), .int .u8 (.num 0), .int .u8 (.num 0), .int .u8 (.num 0), .int .u8 (.num 0), .int .u8 (.num 0), .int .u8 (.num 0), .int .u8 (.num 0), .int .u8 (.num 0), .int .u8 (.num 0), .int .u8 (.num 0), .int .u8 (.num 0), .int .u8 (.num 0), .int .u8 (.num 0), .int .u8 (.num 0), .int .u8 (.num 0), .int .u8 (.num 0), .int .u8 (.num 0), .int .u8 (.num 0), .int .u8 (.num 0), .int .u8 (.num 0), .int .u8 (.num 0), .int .u8 (.num 0), .int .u8 (.num 0), .int .u8 (.num 0), .int .u8 (.num 0), .int .u8 (.num 0), .int .u8 (.num 0), .int .u8 (.num 0), .int .u8 (.num 0), .int .u8 (.num 0), .int .u8 (.num 0), .int .u8 (.num 0), .int .u8 (.num 0), .int .u8 (.num 0), .int .u8 (.num 0), .int .u8 (.num 0), .int .u8 (.num 0), .int .u8 (.num 0), .int .u8 (.num 0), .int .u8 (.num 0), .int .u8 (.num 0), .int .u8 (.num 0), .int .u8 (.num 0), .int .u8 (.num 0), .int .u8 (.num 0), .int .u8 (.num 0), .int .u8 (.num 0), .int .u8 (.num 0), .int .u8 (.num 0), .int .u8 (.num 0), .int .u8 (.num 0), .int .u8 (.num 0), .int .u8 (.num 0), .int .u8 (.num 0), .int .u8 (.num 0), .int .u8 (.num 0), .int .u8 (.num 0), .int .u8 (.num 0), .int .u8 (.num 0), .int .u8 (.num 0), .int .u8 (.num 0), .int .u8 (.num 0), .int .u8 (.num 0), .int .u8 (.num 0), .int .u8 (.num 0), .int .u8 (.num 0), .int .u8 (.num 0), .int .u8 (.num 0), .int .u8 (.num 0), .int .u8 (.num 0), .int .u8 (.num 0), .int .u8 (.num 0), .int .u8 (.num 0), .int .u8 (.num 0), .int .u8 (.num 0), .int .u8 (.num 0), .int .u8 (.num 0), .int .u8 (.num 0), .int .u8 (.num 0), .int .u8 (.num 0), .int .u8 (.num 0), .int .u8 (.num 0), .int .u8 (.num 0), .int .u8 (.num 0), .int .u8 (.num 0), .int .u8 (.num 0), .int .u8 (.num 0), .int .u8 (.num 0), .int .u8 (.num 0), .int .u8 (.num 0), .int .u8 (.num 0), .int .u8 (.num 0), .int .u8 (.num 0), .int .u8 (.num 0), .int .u8 (.num 0), .int .u8 (.num 0), .int .u8 (.num 0), .int .u8 (.num 0), .int .u8 (.num 0), .int .u8 (.num 0)]
def spaceC : List Value := [.int .u8 0, .int .u8 0, .int .u8 0, .int .u8 0, .int .u8 0, .int .u8 0, .int .u8 0, .int .u8 0, .int .u8 0, .int .u8 1, .int .u8 1, .int .u8 1, .int .u8 1, .int .u8 1, .int .u8 0, .int .u8 0, .int .u8 0, .int .u8 0, .int .u8 0, .int .u8 0, .int .u8 0, .int .u8 0, .int .u8 0, .int .u8 0, .int .u8 0, .int .u8 0, .int .u8 0, .int .u8 0, .int .u8 0, .int .u8 0, .int .u8 0, .int .u8 0, .int .u8 1, .int .u8 0, .int .u8 0, .int .u8 0, .int .u8 0, .int .u8 0, .int .u8 0, .int .u8 0, .int .u8 0, .int .u8 0, .int .u8 0, .int .u8 0, .int .u8 0, .int .u8 0, .int .u8 0, .int .u8 0, .int .u8 0, .int .u8 0, .int .u8 0, .int .u8 0, .int .u8 0, .int .u8 0, .int .u8 0, .int .u8 0, .int .u8 0, .int .u8 0, .int .u8 0, .int .u8 0, .int .u8 0, .int .u8 0, .int .u8 0, .int .u8 0, .int .u8 0, .int .u8 0, .int .u8 0, .int .u8 0, .int .u8 0, .int .u8 0, .int .u8 0, .int .u8 0, .int .u8 0, .int .u8 0, .int .u8 0, .int .u8 0, .int .u8 0, .int .u8 0, .int .u8 0, .int .u8 0, .int .u8 0, .int .u8 0, .int .u8 0, .int .u8 0, .int .u8 0, .int .u8 0, .int .u8 0, .int .u8 0, .int .u8 0, .int .u8 0, .int .u8 0, .int .u8 0, .int .u8 0, .int .u8 0, .int .u8 0, .int .u8 0, .int .u8 0, .int .u8 0, .int .u8 0, .int .u8 0, .int .u8 0, .int .u8 0, .int .u8 0, .int .u8 0, .int .u8 0, .int .u8 0, .int .u8 0, .int .u8 0, .int .u8 0, .int .u8 0, .int .u8 0, .int .u8 0, .int .u8 0, .int .u8 0, .int .u8 0, .int .u8 0, .int .u8 0, .int .u8 0, .int .u8 0, .int .u8 0, .int .u8 0, .int .u8 0, .int .u8 0, .int .u8 0, .int .u8 0, .int .u8 0, .int .u8 0, .int .u8 0, .int .u8 0, .int .u8 0, .int .u8 0, .int .u8 0, .int .u8 0, .int .u8 0, .int .u8 0, .int .u8 0, .int .u8 0, .int .u8 0, .int .u8 0, .int .u8 0, .int .u8 0, .int .u8 0, .int .u8 0, .int .u8 0, .int .u8 0, .int .u8 0, .int .u8 0, .int .u8 0, .int .u8 0, .int .u8 0, .int .u8 0, .int .u8 0, .int .u8 0, .int .u8 0, .int .u8 0, .int .u8 0, .int .u8 0, .int .u8 0, .int .u8 0, .int .u8 0, .int .u8 0, .int .u8 0, .int .u8 0, .int .u8 0, .int .u8 0, .int .u8 0, .int .u8 0, .int .u8 0, .int .u8 0, .int .u8 0, .int .u8 0, .int .u8 0, .int .u8 0, .int .u8 0, .int .u8 0, .int .u8 0, .int .u8 0, .int .u8 0, .int .u8 0, .int .u8 0, .int .u8 0, .int .u8 0, .int .u8 0, .int .u8 0, .int .u8 0, .int .u8 0, .int .u8 0, .int .u8 0, .int .u8 0, .int .u8 0, .int .u8 0, .int .u8 0, .int .u8 0, .int .u8 0, .int .u8 0, .int .u8 0, .int .u8 0, .int .u8 0, .int .u8 0, .int .u8 0, .int .u8 0, .int .u8 0, .int .u8 0, .int .u8 0, .int .u8 0, .int .u8 0, .int .u8 0, .int .u8 0, .int .u8 0, .int .u8 0, .int .u8 0, .int .u8 0, .int .u8 0, .int .u8 0, .int .u8 0, .int .u8 0, .int .u8 0, .int .u8 0, .int .u8 0, .int .u8 0, .int .u8 0, .int .u8 0, .int .u8 0, .int .u8 0, .int .u8 0, .int .u8 0, .int .u8 0, .int .u8 0, .int .u8 0, .int .u8 0, .int .u8 0, .int .u8 0, .int .u8 0, .int .u8 0, .int .u8 0, .int .u8 0, .int .u8 0, .int .u8 0, .int .u8 0, .int .u8 0, .int .u8 0, .int .u8 0, .int .u8 0, .int .u8 0, .int .u8 0, .int .u8 0, .int .u8 0, .int .u8 0, .int .u8 0, .int .u8 0, .int .u8 0, .int .u8 0, .int .u8 0, .int .u8 0, .int .u8 0, .int .u8 0]
noncomputable def cx : Cx := { P := Tryz.prog, okT := [30], globs := [(2, spaceS)], sharp := true, fold := true, idx := [385], same := [187], quiet := [386] }

/-- The laid variable stands there. -/
def Laid (w : World) : Prop := ∃ cs t fz, w.heap[2]? = some (.cells cs t fz) ∧ cs.toList = spaceC

set_option maxRecDepth 100000 in
theorem space_conc (ρ : Env) (ι : Nm) : spaceS.concL ρ ι = spaceC := rfl

set_option maxRecDepth 100000 in
theorem start (ρ : Env) {w : World} (h : Laid w) (hB : ∀ q, ρ.ab.B q → ownK w q := by exact fun _ h => False.elim h) : HR ρ cx.globs (ownK w) w ι0 [] w := by
  obtain ⟨cs, t, fz, hw, hc⟩ := h
  refine ⟨rfl, rfl, rfl, Nat.le_refl _, fun _ _ => rfl, fun _ h => h, hB, ?_, ?_, ?_⟩
  · intro n b hb; simp at hb
  · intro n m b c hb; simp at hb
  · intro g gs hg
    simp only [cx, List.mem_cons, List.not_mem_nil, or_false, Prod.mk.injEq] at hg
    obtain ⟨rfl, rfl⟩ := hg
    exact ⟨(Array.getElem?_eq_some_iff.1 hw).1, by kernel_rfl, cs, t, fz, hw, by rw [space_conc]; exact hc⟩

set_option maxRecDepth 100000 in
/-- What is put off, where nothing is wrong, does nothing. -/
theorem quietRead (args : Array Value) (w : World) : CallsD Tryz.prog 386 args .returning w fun e u' w' => (∃ v, e = .returned v) ∧ u' = .returning ∧ w' = w := by
  have hnil : ∀ w : World, (binOp BinOp.neq 20 .nilIface .nilIface).run Tryz.prog w = .ok (.bool false) w := fun _ => by kernel_rfl
  refine callsD_of_wpS Tryz.func386 rfl fun c₀ cs hu => ?_
  obtain ⟨T, hT⟩ : ∃ T, T = args ++ Array.replicate (Tryz.f386.ntmps - args.size) undef := ⟨_, rfl⟩
  have hs : 13 ≤ T.size := by
    rw [hT, Array.size_append, Array.size_replicate, Tryz.ntmps386]
    omega
  rw [← hT]
  clear hT
  have h3 : 3 < T.size := by omega
  have h4 : 4 < T.size := by omega
  have h5 : 5 < T.size := by omega
  have h6 : 6 < T.size := by omega
  apply wpS_seq
  apply wpS_region
  simp [wpOpsS, go_sem, recoverD, hu, Exit.thenS, h4]
  apply wpS_seq
  apply wpS_region
  simp [wpOpsS, go_sem, Exit.thenS, h3, h5, hnil]
  refine wpS_cond (t := false) (by simp [Act.eval, h6]) ?_
  simp only [Bool.false_eq_true, if_false]
  refine wpS_of_wp (wp_skip ?_)
  cases c₀
  simp_all [bodyPostS, results, Tryz.results386]

set_option maxRecDepth 100000 in
theorem cxok : cx.Ok where
  okT := by
    intro t ht
    simp only [cx, List.mem_cons, List.not_mem_nil, or_false] at ht
    subst ht
    exact ⟨by kernel_rfl, by kernel_rfl⟩
  names := names_of (by kernel_rfl)
  mixed := by kernel_rfl
  idx := by
    intro g hg s k hk w
    simp only [cx, List.mem_cons, List.not_mem_nil, or_false] at hg
    subst hg
    exact idx_of Tryz.func385 (by kernel_rfl) (by kernel_rfl) (by kernel_rfl) (by kernel_rfl) s k hk w
  quiet := by
    intro f hf
    simp only [cx, List.mem_cons, List.not_mem_nil, or_false] at hf
    subst hf
    exact ⟨⟨_, _, Tryz.func386, rfl⟩, quietRead⟩
  same := by
    intro g hg v w
    simp only [cx, List.mem_cons, List.not_mem_nil, or_false] at hg
    subst hg
    exact same_of Tryz.func187 (by kernel_rfl) (by kernel_rfl) (by kernel_rfl) (by kernel_rfl) v w

noncomputable def goes (S : Specs) (f : Nat) (args : List SVal) : Bool := isTrue (callT cx S (run cx S 20000) f args [] (.bit true))

set_option maxRecDepth 100000 in
theorem goes_ok {S : Specs} (ρ : Env) (hS : S.Ok ρ cx) (hSb : ∀ g, S g ≠ none → ∃ fn c, cx.P.funcs[g]? = some fn ∧ fn.body = some c) {f : Nat} {args : List SVal} (h : goes S f args = true)
    (hB : ∀ q, ¬ ρ.ab.B q) (hsc : ∀ v ∈ args, v.sc 0 = true) {vals : List Value} (hv : args.map (·.conc ρ ι0) = vals) {w : World} (hw : Laid w) :
    Calls Tryz.prog f vals.toArray w fun e w' => e = .returned (.bool true) ∧ Below w.heap.size w w' := by
  unfold goes at h
  obtain ⟨y, h1, h2⟩ := isTrue_get (ρ := ρ) h
  have hc := call_ok cxok hS hSb (pc := .bit true) rfl h1
  have := hc (ownK w) w _ w (start ρ hw (fun q hq => (hB q hq).elim)) hsc
  have this : Calls Tryz.prog f (args.map (·.conc ρ ι0)).toArray w _ := this
  rw [hv] at this
  refine Calls.mono (R := _) this ?_
  rintro e w' ⟨ι', _, _, H', _, _, rfl⟩
  rw [h2]
  exact ⟨by simp [SVal.conc, Tm.den], H'.grown⟩
set_option maxRecDepth 100000 in
theorem closed : Globs.Closed cx.globs := by
  intro g cs hg ρ ρ' ι
  simp only [cx, List.mem_cons, List.not_mem_nil, or_false, Prod.mk.injEq] at hg
  obtain ⟨rfl, rfl⟩ := hg
  rw [space_conc, space_conc]

set_option maxRecDepth 100000 in
theorem joinOk : JoinOk cx.P 119 := ⟨fun bk o c xs sep w h1 h2 h3 h4 h5 => Any.strings_Join Tryz.lays156 Tryz.Builder_Extra_156 bk o c xs sep w h1 h2 h3 h4 h5⟩
end gx
end Go.Proofs.YtdeelhbckfmaeaaGreatDoor
/- For the seat: what reading and printing a line answers in the example. -/
namespace Go.Proofs.YtdeelhbckfmaeaaGreatDoor
open Go.Sx Go.RowKit
namespace hx
def o0 : List SVal × SVal := ([.str (.text [98, 32, 120])], .tup (.cons (.agg (.cons (.str (.text [])) (.cons (.int .i64 (.num 1)) (.cons (.int .i64 (.num 35)) (.cons (.int .i64 (.num 14)) (.cons (.int .i64 (.num 0)) (.cons (.int .i64 (.num 0)) (.cons (.int .i64 (.num 0)) (.cons (.int .i64 (.num 0)) (.cons (.int .i64 (.num 1)) (.cons (.int .i64 (.num 0)) (.cons (.bool (.bit false)) (.cons (.int .i64 (.num 14)) (.cons (.str (.text [120])) (.cons (.bool (.bit false)) (.cons (.int .i64 (.num 0)) (.cons (.int .i64 (.num 0)) (.cons (.int .i64 (.num 0)) (.cons (.str (.text [])) (.cons (.nilslice) (.nil))))))))))))))))))))) (.cons (.int .i64 (.num 0)) (.nil))))
def o1 : List SVal × SVal := ([.str (.text [120, 58, 32, 110, 111, 112])], .tup (.cons (.agg (.cons (.str (.text [120])) (.cons (.int .i64 (.num 1)) (.cons (.int .i64 (.num 43)) (.cons (.int .i64 (.num 0)) (.cons (.int .i64 (.num 0)) (.cons (.int .i64 (.num 0)) (.cons (.int .i64 (.num 0)) (.cons (.int .i64 (.num 0)) (.cons (.int .i64 (.num 0)) (.cons (.int .i64 (.num 0)) (.cons (.bool (.bit false)) (.cons (.int .i64 (.num 14)) (.cons (.str (.text [])) (.cons (.bool (.bit false)) (.cons (.int .i64 (.num 0)) (.cons (.int .i64 (.num 0)) (.cons (.int .i64 (.num 0)) (.cons (.str (.text [])) (.cons (.nilslice) (.nil))))))))))))))))))))) (.cons (.int .i64 (.num 0)) (.nil))))
def o2 : List SVal × SVal := ([.str (.text [109, 111, 118, 115, 32, 114, 48, 44, 32, 35, 49])], .tup (.cons (.agg (.cons (.str (.text [])) (.cons (.int .i64 (.num 1)) (.cons (.int .i64 (.num 10)) (.cons (.int .i64 (.num 0)) (.cons (.int .i64 (.num 0)) (.cons (.int .i64 (.num 0)) (.cons (.int .i64 (.num 0)) (.cons (.int .i64 (.num 0)) (.cons (.int .i64 (.num 1)) (.cons (.int .i64 (.num 0)) (.cons (.bool (.bit true)) (.cons (.int .i64 (.num 14)) (.cons (.str (.text [])) (.cons (.bool (.bit false)) (.cons (.int .i64 (.num 0)) (.cons (.int .i64 (.num 1)) (.cons (.int .i64 (.num 1)) (.cons (.str (.text [])) (.cons (.nilslice) (.nil))))))))))))))))))))) (.cons (.int .i64 (.num 0)) (.nil))))
def os : List (List SVal × SVal) := [o0, o1, o2]
def p0 : List SVal × SVal := ([.str (.text [98, 32, 108, 50])], .tup (.cons (.agg (.cons (.str (.text [])) (.cons (.int .i64 (.num 1)) (.cons (.int .i64 (.num 35)) (.cons (.int .i64 (.num 14)) (.cons (.int .i64 (.num 0)) (.cons (.int .i64 (.num 0)) (.cons (.int .i64 (.num 0)) (.cons (.int .i64 (.num 0)) (.cons (.int .i64 (.num 1)) (.cons (.int .i64 (.num 0)) (.cons (.bool (.bit false)) (.cons (.int .i64 (.num 14)) (.cons (.str (.text [108, 50])) (.cons (.bool (.bit false)) (.cons (.int .i64 (.num 0)) (.cons (.int .i64 (.num 0)) (.cons (.int .i64 (.num 0)) (.cons (.str (.text [])) (.cons (.nilslice) (.nil))))))))))))))))))))) (.cons (.int .i64 (.num 0)) (.nil))))
def p1 : List SVal × SVal := ([.str (.text [108, 50, 58, 32, 110, 111, 112])], .tup (.cons (.agg (.cons (.str (.text [108, 50])) (.cons (.int .i64 (.num 1)) (.cons (.int .i64 (.num 43)) (.cons (.int .i64 (.num 0)) (.cons (.int .i64 (.num 0)) (.cons (.int .i64 (.num 0)) (.cons (.int .i64 (.num 0)) (.cons (.int .i64 (.num 0)) (.cons (.int .i64 (.num 0)) (.cons (.int .i64 (.num 0)) (.cons (.bool (.bit false)) (.cons (.int .i64 (.num 14)) (.cons (.str (.text [])) (.cons (.bool (.bit false)) (.cons (.int .i64 (.num 0)) (.cons (.int .i64 (.num 0)) (.cons (.int .i64 (.num 0)) (.cons (.str (.text [])) (.cons (.nilslice) (.nil))))))))))))))))))))) (.cons (.int .i64 (.num 0)) (.nil))))
def p2 : List SVal × SVal := ([.str (.text [109, 111, 118, 115, 32, 114, 48, 44, 32, 35, 49])], .tup (.cons (.agg (.cons (.str (.text [])) (.cons (.int .i64 (.num 1)) (.cons (.int .i64 (.num 10)) (.cons (.int .i64 (.num 0)) (.cons (.int .i64 (.num 0)) (.cons (.int .i64 (.num 0)) (.cons (.int .i64 (.num 0)) (.cons (.int .i64 (.num 0)) (.cons (.int .i64 (.num 1)) (.cons (.int .i64 (.num 0)) (.cons (.bool (.bit true)) (.cons (.int .i64 (.num 14)) (.cons (.str (.text [])) (.cons (.bool (.bit false)) (.cons (.int .i64 (.num 0)) (.cons (.int .i64 (.num 1)) (.cons (.int .i64 (.num 1)) (.cons (.str (.text [])) (.cons (.nilslice) (.nil))))))))))))))))))))) (.cons (.int .i64 (.num 0)) (.nil))))
def ps : List (List SVal × SVal) := [p0, p1, p2]
def l0 : List SVal × SVal := ([.agg (.cons (.str (.text [])) (.cons (.int .i64 (.num 1)) (.cons (.int .i64 (.num 35)) (.cons (.int .i64 (.num 14)) (.cons (.int .i64 (.num 0)) (.cons (.int .i64 (.num 0)) (.cons (.int .i64 (.num 0)) (.cons (.int .i64 (.num 0)) (.cons (.int .i64 (.num 1)) (.cons (.int .i64 (.num 0)) (.cons (.bool (.bit false)) (.cons (.int .i64 (.num 14)) (.cons (.str (.text [108, 50])) (.cons (.bool (.bit false)) (.cons (.int .i64 (.num 0)) (.cons (.int .i64 (.num 0)) (.cons (.int .i64 (.num 0)) (.cons (.str (.text [])) (.cons (.nilslice) (.nil))))))))))))))))))))], .tup (.cons (.str (.text [98, 32, 108, 50])) (.cons (.bool (.bit true)) (.nil))))
def l1 : List SVal × SVal := ([.agg (.cons (.str (.text [108, 50])) (.cons (.int .i64 (.num 1)) (.cons (.int .i64 (.num 43)) (.cons (.int .i64 (.num 0)) (.cons (.int .i64 (.num 0)) (.cons (.int .i64 (.num 0)) (.cons (.int .i64 (.num 0)) (.cons (.int .i64 (.num 0)) (.cons (.int .i64 (.num 0)) (.cons (.int .i64 (.num 0)) (.cons (.bool (.bit false)) (.cons (.int .i64 (.num 14)) (.cons (.str (.text [])) (.cons (.bool (.bit false)) (.cons (.int .i64 (.num 0)) (.cons (.int .i64 (.num 0)) (.cons (.int .i64 (.num 0)) (.cons (.str (.text [])) (.cons (.nilslice) (.nil))))))))))))))))))))], .tup (.cons (.str (.text [108, 50, 58, 32, 110, 111, 112])) (.cons (.bool (.bit true)) (.nil))))
def l2 : List SVal × SVal := ([.agg (.cons (.str (.text [])) (.cons (.int .i64 (.num 1)) (.cons (.int .i64 (.num 10)) (.cons (.int .i64 (.num 0)) (.cons (.int .i64 (.num 0)) (.cons (.int .i64 (.num 0)) (.cons (.int .i64 (.num 0)) (.cons (.int .i64 (.num 0)) (.cons (.int .i64 (.num 1)) (.cons (.int .i64 (.num 0)) (.cons (.bool (.bit true)) (.cons (.int .i64 (.num 14)) (.cons (.str (.text [])) (.cons (.bool (.bit false)) (.cons (.int .i64 (.num 0)) (.cons (.int .i64 (.num 1)) (.cons (.int .i64 (.num 1)) (.cons (.str (.text [])) (.cons (.nilslice) (.nil))))))))))))))))))))], .tup (.cons (.str (.text [109, 111, 118, 115, 32, 114, 48, 44, 32, 35, 49])) (.cons (.bool (.bit true)) (.nil))))
def ls : List (List SVal × SVal) := [l0, l1, l2]
def e0 : List SVal × SVal := ([.agg (.cons (.int .i64 (.num 43)) (.cons (.int .i64 (.num 0)) (.cons (.int .i64 (.num 0)) (.cons (.int .i64 (.num 0)) (.cons (.int .i64 (.num 0)) (.cons (.int .i64 (.num 0)) (.cons (.int .i64 (.num 0)) (.cons (.int .i64 (.num 0)) (.cons (.bool (.bit false)) (.nil)))))))))), .bool (.bit false)], .tup (.cons (.int .i64 (.num 48896)) (.cons (.bool (.bit true)) (.nil))))
def e1 : List SVal × SVal := ([.agg (.cons (.int .i64 (.num 10)) (.cons (.int .i64 (.num 0)) (.cons (.int .i64 (.num 0)) (.cons (.int .i64 (.num 0)) (.cons (.int .i64 (.num 0)) (.cons (.int .i64 (.num 1)) (.cons (.int .i64 (.num 1)) (.cons (.int .i64 (.num 0)) (.cons (.bool (.bit true)) (.nil)))))))))), .bool (.bit false)], .tup (.cons (.int .i64 (.num 8193)) (.cons (.bool (.bit true)) (.nil))))
def e2 : List SVal × SVal := ([.agg (.cons (.int .i64 (.num 35)) (.cons (.int .i64 (.num 14)) (.cons (.int .i64 (.num 0)) (.cons (.int .i64 (.num 0)) (.cons (.int .i64 (.num 0)) (.cons (.int .i64 (.num (-2))) (.cons (.int .i64 (.num 1)) (.cons (.int .i64 (.num 0)) (.cons (.bool (.bit false)) (.nil)))))))))), .bool (.bit false)], .tup (.cons (.int .i64 (.num 59391)) (.cons (.bool (.bit true)) (.nil))))
def es : List (List SVal × SVal) := [e0, e1, e2]
noncomputable def S1 : Specs := orS (memoS 120 ps) (joinSp 119)
def aA : List SVal := [.str (.text [98, 32, 120, 10, 120, 58, 32, 110, 111, 112, 10, 109, 111, 118, 115, 32, 114, 48, 44, 32, 35, 49, 10])]
def aV : SVal := .tup (.cons (.agg (.cons (.str (.text [255, 231, 0, 191, 1, 32])) (.cons (.slice 0 0 3 (.of 0)) (.nil)))) (.cons (.int .i64 (.num 0)) (.cons (.int .i64 (.num 0)) (.nil))))
def aH : Heap := [some { cells := .cons (.int .i64 (.num 1)) (.cons (.int .i64 (.num 0)) (.cons (.int .i64 (.num 2)) (.cons (.int .i64 (.num 0)) (.cons (.int .i64 (.num 1)) (.cons (.int .i64 (.num 35)) (.cons (.int .i64 (.num 14)) (.cons (.int .i64 (.num 0)) (.cons (.int .i64 (.num 0)) (.cons (.int .i64 (.num 0)) (.cons (.int .i64 (.num (-2))) (.cons (.int .i64 (.num 1)) (.cons (.int .i64 (.num 0)) (.cons (.bool (.bit false)) (.cons (.nilslice) (.cons (.int .i64 (.num 1)) (.cons (.int .i64 (.num 2)) (.cons (.int .i64 (.num 2)) (.cons (.int .i64 (.num 0)) (.cons (.int .i64 (.num 2)) (.cons (.int .i64 (.num 43)) (.cons (.int .i64 (.num 0)) (.cons (.int .i64 (.num 0)) (.cons (.int .i64 (.num 0)) (.cons (.int .i64 (.num 0)) (.cons (.int .i64 (.num 0)) (.cons (.int .i64 (.num 0)) (.cons (.int .i64 (.num 0)) (.cons (.bool (.bit false)) (.cons (.nilslice) (.cons (.int .i64 (.num 1)) (.cons (.int .i64 (.num 4)) (.cons (.int .i64 (.num 2)) (.cons (.int .i64 (.num 0)) (.cons (.int .i64 (.num 3)) (.cons (.int .i64 (.num 10)) (.cons (.int .i64 (.num 0)) (.cons (.int .i64 (.num 0)) (.cons (.int .i64 (.num 0)) (.cons (.int .i64 (.num 0)) (.cons (.int .i64 (.num 1)) (.cons (.int .i64 (.num 1)) (.cons (.int .i64 (.num 0)) (.cons (.bool (.bit true)) (.cons (.nilslice) (.nil))))))))))))))))))))))))))))))))))))))))))))), elem := 33, spare := some 15, abs := none }]
def aM : List Nat := [233]
noncomputable def S3 : Specs := orS (memoS 164 es) (memoS 56 os)
noncomputable def S2 : Specs := orS (memoES 19 aA aV aH) (orS (memoS 66 ls) (joinSp 119))
end hx
end Go.Proofs.YtdeelhbckfmaeaaGreatDoor
