/- Structs of numbers and truths, by value: opened and shut. -/
import Derived.Test.YtaiecnepchndkaaDoorSxSpec
import Derived.Lib.SmallJoins
namespace Go.Sx
open Go.ChangeShapes Go.WideShapes Go.RowKit Go.Joins Go.Deep

/-- What stands in the cells: numbers of a kind, or truths. -/
def flatKinds (P : Program) : List Field → Option (List (Option IntKind))
  | [] => some []
  | f :: r => match P.underlying f.type, flatKinds P r with
    | some (.int k), some l => some (some k :: l)
    | some .bool, some l => some (none :: l)
    | _, _ => none

def Fit : Option IntKind → Value → Prop
  | some k, v => ∃ n, v = .int k n ∧ (Lit.int k n).wf = true
  | none, v => ∃ b, v = .bool b

theorem flatKinds_at {P : Program} : ∀ {l : List Field} {ks : List (Option IntKind)}, flatKinds P l = some ks → l.length = ks.length ∧ ∀ (j : Nat) (f : Field), l[j]? = some f →
    (∃ k, ks[j]? = some (some k) ∧ P.underlying f.type = some (.int k)) ∨ (ks[j]? = some none ∧ P.underlying f.type = some .bool)
  | [], ks, h => by simp [flatKinds] at h; subst h; simp
  | f :: r, ks, h => by
    unfold flatKinds at h
    split at h
    · rename_i k l hu hr
      simp at h; subst h
      obtain ⟨h1, h2⟩ := flatKinds_at hr
      refine ⟨by simp [h1], ?_⟩
      intro j g hj
      cases j with
      | zero => simp at hj; subst hj; exact .inl ⟨k, by simp, hu⟩
      | succ j => simpa using h2 j g (by simpa using hj)
    · rename_i l hu hr
      simp at h; subst h
      obtain ⟨h1, h2⟩ := flatKinds_at hr
      refine ⟨by simp [h1], ?_⟩
      intro j g hj
      cases j with
      | zero => simp at hj; subst hj; exact .inr ⟨by simp, hu⟩
      | succ j => simpa using h2 j g (by simpa using hj)
    · cases h

theorem mapM_points {α β : Type} (g : α → Option β) : ∀ (l : List α) (xs : List β), xs.length = l.length → (∀ (j : Nat) a, l[j]? = some a → g a = xs[j]?) → l.mapM g = some xs
  | [], [], _, _ => by simp
  | [], _ :: _, h, _ => by simp at h
  | _ :: _, [], h, _ => by simp at h
  | a :: l, x :: xs, h, hp => by
    have h0 := hp 0 a (by simp)
    have hr := mapM_points g l xs (by simpa using h) (fun j b hj => by simpa using hp (j + 1) b (by simpa using hj))
    simp at h0
    simp [List.mapM_cons, h0, hr]

section
variable {H : Type} {enc : TypeId × Value → H} {P : Program} {w : World} {base : Nat} {spare : Nat → Bool} {held : Bool}

/-- A STRUCT OF NUMBERS AND TRUTHS, BY VALUE: what it is; it is read the same in every world. -/
theorem open_flat {r : Reach} {b0 : Nat} {t : TypeId} {fs : Array Field} {ks : List (Option IntKind)} {v : Value} {d : DataW H} {p : List MemPlace} (hs : P.underlying t = some (.struct fs)) (hone : oneCellFields P fs = true)
    (hC : P.cellsOf t = fs.size) (hk : flatKinds P fs.toList = some ks) (hv : Value.okWide P w r b0 t v) (h : DataW.Trod enc P w base spare held t v d p) :
    ∃ vs : List Value, v = .agg vs.toArray ∧ vs.length = ks.length ∧ (∀ (j : Nat) k, ks[j]? = some k → ∃ u, vs[j]? = some u ∧ Fit k u) ∧ p = [] ∧
      ∀ (w' : World) (base' : Nat) (spare' : Nat → Bool) (held' : Bool), DataW.Trod enc P w' base' spare' held' t v d [] := by
  obtain ⟨cs, rfl, hsz⟩ := okWide_struct hs hv
  obtain ⟨l⟩ := cs
  obtain ⟨fuel, hf⟩ := h
  obtain ⟨xs, n, _, hx, hl, hlen, hg⟩ := DataW.trod_struct hs hf
  obtain ⟨hk1, hk2⟩ := flatKinds_at hk
  simp only [Prod.mk.injEq] at hx
  have hll : l.length = fs.size := by simpa using hsz.trans hC
  have key : ∀ (j : Nat) (f : Field), fs[j]? = some f → ∃ (u : Value) (y : DataW H × List MemPlace), l[j]? = some u ∧ xs[j]? = some y ∧ y.2 = [] ∧ (∀ k, ks[j]? = some k → Fit k u) ∧ ((l.drop f.offset).take (P.cellsOf f.type)) = [u] ∧
      ∀ (w' : World) (base' : Nat) (spare' : Nat → Bool) (held' : Bool), DataW.trod enc P w' base' spare' held' 1 f.type [u] = some y := by
    intro j f hj
    obtain ⟨o, k⟩ := hone_of hone j f hj
    have hjl : j < fs.size := (Array.getElem?_eq_some_iff.1 hj).1
    have h1 := hg j f hj
    have hone' : (l.drop f.offset).take (P.cellsOf f.type) = [l[j]'(by omega)] := by
      rw [o, k, List.drop_eq_getElem_cons (by omega)]; rfl
    simp only [Value.cells] at h1
    rw [hone'] at h1
    have hxj : xs[j]? = some (xs[j]'(by omega)) := List.getElem?_eq_getElem (by omega)
    rw [hxj] at h1
    refine ⟨_, _, List.getElem?_eq_getElem (by omega), hxj, ?_⟩
    rcases hk2 j f (by simpa using hj) with ⟨k, e1, e2⟩ | ⟨e1, e2⟩
    · obtain ⟨n', g1, g2, g3⟩ := DataW.trod_int e2 h1
      simp only [List.cons.injEq, and_true] at g1
      refine ⟨by rw [g2], ?_, hone', ?_⟩
      · intro k' hk'; rw [e1] at hk'; simp at hk'; subst hk'; exact ⟨n', g1, g3⟩
      · intro w' base' spare' held'; rw [g1, g2]; simp [DataW.trod, e2, g3]
    · obtain ⟨b, g1, g2⟩ := DataW.trod_bool e2 h1
      simp only [List.cons.injEq, and_true] at g1
      refine ⟨by rw [g2], ?_, hone', ?_⟩
      · intro k' hk'; rw [e1] at hk'; simp at hk'; subst hk'; exact ⟨b, g1⟩
      · intro w' base' spare' held'; rw [g1, g2]; simp [DataW.trod, e2]
  have hfm : xs.flatMap (·.2) = [] := by
    rw [List.flatMap_eq_nil_iff]
    intro y hy
    obtain ⟨j, hj, rfl⟩ := List.getElem_of_mem hy
    obtain ⟨u, y', _, g2, g3, _⟩ := key j (fs[j]'(by omega)) (Array.getElem?_eq_getElem (by omega))
    rw [List.getElem?_eq_getElem hj] at g2
    simp at g2; rw [g2]; exact g3
  refine ⟨l, rfl, by simp at hk1; omega, ?_, by rw [hx.2, hfm], ?_⟩
  · intro j k hjk
    have hj : j < ks.length := (List.getElem?_eq_some_iff.1 hjk).1
    simp at hk1
    obtain ⟨u, y, g1, _, _, g4, _⟩ := key j (fs[j]'(by omega)) (Array.getElem?_eq_getElem (by omega))
    exact ⟨u, g1, g4 k hjk⟩
  · intro w' base' spare' held'
    refine ⟨2, ?_⟩
    have := trod_struct_mk (enc := enc) (w := w') (base := base') (spare := spare') (held := held') (n := 1) (cs := l) (xs := xs) hs (by omega) (mapM_points _ _ _ (by simpa using hlen) (by
      intro j f hj
      obtain ⟨u, y, _, g2, _, _, g5, g6⟩ := key j f (by simpa using hj)
      rw [g5, g6, g2]))
    rw [hfm] at this
    rw [hx.1]
    simpa [Value.cells] using this
end

end Go.Sx
