/- For the seat: the executor over its program, and the package's variable that is laid. -/
import Derived.Test.YtaiecnepchndkaaDoorSxFlat
import Derived.Test.YtaiecnepchndkaaDoorSxOnes
import Derived.Test.YtaiecnepchndkaaDoorRows
import Derived.ChangeVars
import Derived.RowKit
namespace Go.Proofs.YtaiecnepchndkaaDoor
open Go.Sx Go.ChangeShapes Go.WideShapes Go.RowKit Go.Joins Go.Deep

def kindsS : SVal := .ofList [.int .i64 (.num 0), .bool (.bit false), .int .i64 (.num 8), .bool (.bit true), .int .i64 (.num 11), .bool (.bit true), .int .i64 (.num 20), .bool (.bit true), .int .i64 (.num 24), .bool (.bit true), .int .i64 (.num 6), .bool (.bit false)]

noncomputable def cx : Cx := { P := Tryd.prog, okT := [23], globs := [(0, kindsS)] }

theorem cxok : cx.Ok := by
  refine ⟨?_, names_of (by kernel_rfl), by kernel_rfl⟩
  intro t ht
  simp only [cx, List.mem_cons, List.not_mem_nil, or_false] at ht
  subst ht
  exact ⟨by kernel_rfl, by kernel_rfl⟩

theorem globsC : Globs.Closed cx.globs := by
  intro g cs hg ρ ρ' ι
  simp only [cx, List.mem_cons, List.not_mem_nil, or_false, Prod.mk.injEq] at hg
  obtain ⟨rfl, rfl⟩ := hg
  rfl

def cells12 : Array Value := #[.int .i64 0, .bool false, .int .i64 8, .bool true, .int .i64 11, .bool true, .int .i64 20, .bool true, .int .i64 24, .bool true, .int .i64 6, .bool false]

theorem kinds_conc (ρ : Env) (ι : Nm) : kindsS.concL ρ ι = cells12.toList := rfl

/-- The laid variable stands there. -/
def Laid (w : World) : Prop := ∃ t fz, w.heap[0]? = some (.cells cells12 t fz)

theorem start (ρ : Env) {w : World} (h : Laid w) : HR ρ cx.globs (ownK w) w ι0 [] w := by
  obtain ⟨t, fz, hw⟩ := h
  refine ⟨rfl, rfl, rfl, Nat.le_refl _, fun _ _ => rfl, fun _ h => h, ?_, ?_, ?_, ?_⟩
  · intro a ha
    simp only [World.frozen?]
    rw [Array.getElem?_eq_none (by unfold ownK at ha; omega)]
  · intro n b hb; simp at hb
  · intro n m b c hb; simp at hb
  · intro g cs hg
    simp only [cx, List.mem_cons, List.not_mem_nil, or_false, Prod.mk.injEq] at hg
    obtain ⟨rfl, rfl⟩ := hg
    exact ⟨(Array.getElem?_eq_some_iff.1 hw).1, rfl, cells12, t, fz, hw, rfl⟩

theorem own : ownKnob Tryd.prog.godebug = none := by kernel_rfl
theorem kindsG : Tryd.prog.globalNamed "cartouche/offs.kinds" = some 0 := by kernel_rfl
theorem kindsT : (Tryd.prog.globals[0]?).map (·.type) = some 126 := by kernel_rfl
theorem cellsOf126 : Tryd.prog.cellsOf 126 = 12 := by kernel_rfl
theorem cellsOf125 : Tryd.prog.cellsOf 125 = 2 := by kernel_rfl
theorem cellsOf3 : Tryd.prog.cellsOf 3 = 1 := by kernel_rfl
theorem cellsOf4 : Tryd.prog.cellsOf 4 = 1 := by kernel_rfl
theorem under126 : Tryd.prog.underlying 126 = some (.array 6 125) := by kernel_rfl

theorem kind_of_trod {H : Type} {enc : TypeId × Value → H} {w : World} {base : Nat} {sp : Nat → Bool} {held : Bool} {fuel : Nat} {a b : Value} {y : DataW H × List MemPlace}
    (h : DataW.trod enc Tryd.prog w base sp held fuel 125 [a, b] = some y) : ∃ n s, a = .int .i64 n ∧ b = .bool s ∧ y.1 = .agg [.lit (.int .i64 n), .lit (.bool s)] := by
  obtain ⟨fs, hs, hsz, hone, hk⟩ : ∃ fs : Array Field, Tryd.prog.underlying 125 = some (.struct fs) ∧ fs.size = 2 ∧ oneCellFields Tryd.prog fs = true ∧ flatKinds Tryd.prog fs.toList = some [some .i64, none] :=
    ⟨_, Tryd.underlying125, rfl, by kernel_rfl, by kernel_rfl⟩
  obtain ⟨xs, n, rfl, hx, _, hl, hf⟩ := DataW.trod_struct hs h
  obtain ⟨_, hk2⟩ := flatKinds_at hk
  rw [hsz] at hl
  have e0 : fs[0]? = some (fs[0]'(by omega)) := Array.getElem?_eq_getElem (by omega)
  have e1 : fs[1]? = some (fs[1]'(by omega)) := Array.getElem?_eq_getElem (by omega)
  obtain ⟨x0, x1, rfl⟩ : ∃ x0 x1, xs = [x0, x1] := by
    match xs, hl with
    | [x0, x1], _ => exact ⟨x0, x1, rfl⟩
  have g0 := hf 0 _ e0
  have g1 := hf 1 _ e1
  obtain ⟨o0, c0⟩ := hone_of hone 0 _ e0
  obtain ⟨o1, c1⟩ := hone_of hone 1 _ e1
  rw [o0, c0] at g0
  rw [o1, c1] at g1
  have g0' : DataW.trod enc Tryd.prog w base sp held n _ [a] = some x0 := g0
  have g1' : DataW.trod enc Tryd.prog w base sp held n _ [b] = some x1 := g1
  rcases hk2 0 _ (by rw [Array.getElem?_toList]; exact e0) with ⟨k, u1, u2⟩ | ⟨u1, _⟩
  · rcases hk2 1 _ (by rw [Array.getElem?_toList]; exact e1) with ⟨k', v1, _⟩ | ⟨v1, v2⟩
    · simp at v1
    · simp at u1
      subst u1
      obtain ⟨n', r1, r2, _⟩ := DataW.trod_int u2 g0'
      obtain ⟨s, r3, r4⟩ := DataW.trod_bool v2 g1'
      simp only [List.cons.injEq, and_true] at r1 r3
      refine ⟨n', s, r1, r3, ?_⟩
      rw [hx, r2, r4]; rfl
  · simp at u1

theorem cells_of_laid {W : World} (h : laidMet Tryd.prog [("cartouche/offs.kinds", Rows.laid_cartouche_offs_kinds)] W) : W.var? Tryd.prog "cartouche/offs.kinds" = some cells12 := by
  obtain ⟨ps, ⟨g, t, cs, fuel, p, q, hg, ht, hvar, hd, _, _⟩, _⟩ := h
  obtain rfl := Option.some.inj (kindsG.symm.trans hg)
  obtain rfl := Option.some.inj (kindsT.symm.trans ht)
  rw [hvar]
  congr 1
  obtain ⟨l⟩ := cs
  cases fuel with
  | zero => simp [DataW.trod] at hd
  | succ fuel =>
    simp only [DataW.trod, under126, cellsOf126, cellsOf125] at hd
    split at hd
    · rename_i hl
      obtain ⟨c0, c1, c2, c3, c4, c5, c6, c7, c8, c9, c10, c11, rfl⟩ : ∃ c0 c1 c2 c3 c4 c5 c6 c7 c8 c9 c10 c11, l = [c0, c1, c2, c3, c4, c5, c6, c7, c8, c9, c10, c11] := by
        match l, hl with
        | [c0, c1, c2, c3, c4, c5, c6, c7, c8, c9, c10, c11], _ => exact ⟨c0, c1, c2, c3, c4, c5, c6, c7, c8, c9, c10, c11, rfl⟩
      have e : List.range 6 = [0, 1, 2, 3, 4, 5] := rfl
      rw [e] at hd
      simp only [Option.map_eq_some_iff, List.mapM_cons, List.mapM_nil, Option.bind_eq_bind, Option.bind_eq_some_iff, Option.pure_def, Option.some.injEq] at hd
      obtain ⟨xs, ⟨y0, h0, _, ⟨y1, h1, _, ⟨y2, h2, _, ⟨y3, h3, _, ⟨y4, h4, _, ⟨y5, h5, _, rfl, rfl⟩, rfl⟩, rfl⟩, rfl⟩, rfl⟩, rfl⟩, hx⟩ := hd
      obtain ⟨n0, s0, rfl, rfl, k0⟩ := kind_of_trod h0
      obtain ⟨n1, s1, rfl, rfl, k1⟩ := kind_of_trod h1
      obtain ⟨n2, s2, rfl, rfl, k2⟩ := kind_of_trod h2
      obtain ⟨n3, s3, rfl, rfl, k3⟩ := kind_of_trod h3
      obtain ⟨n4, s4, rfl, rfl, k4⟩ := kind_of_trod h4
      obtain ⟨n5, s5, rfl, rfl, k5⟩ := kind_of_trod h5
      have hx' := congrArg Prod.fst hx
      simp only [List.map_cons, List.map_nil, k0, k1, k2, k3, k4, k5, Rows.laid_cartouche_offs_kinds] at hx'
      simp at hx'
      obtain ⟨⟨rfl, rfl⟩, ⟨rfl, rfl⟩, ⟨rfl, rfl⟩, ⟨rfl, rfl⟩, ⟨rfl, rfl⟩, ⟨rfl, rfl⟩⟩ := hx'
      rfl
    · cases hd

theorem laid_of {W : World} (h : laidMet Tryd.prog [("cartouche/offs.kinds", Rows.laid_cartouche_offs_kinds)] W) : Laid W := by
  have hv := cells_of_laid h
  simp only [World.var?, kindsG, Option.bind_some] at hv
  split at hv
  · rename_i cs t fz hh
    simp only [Option.some.injEq] at hv
    subst hv
    exact ⟨t, fz, hh⟩
  · cases hv

end Go.Proofs.YtaiecnepchndkaaDoor
