/- Memory's keys: a place reads as a key; a map of places that reads as cells. -/
import Derived.Test.YtcccfckefjjoiaaMemPlain
import Derived.Test.YtcccfckefjjoiaaRows
import Derived.WalkKit
import Derived.Below
import Derived.Laws.BitsAllLaws
import Derived.Maps.OwnSet
import Derived.Maps.RangeWalk
import Derived.DeepKeys4
import Derived.WalkArith
namespace Go.Proofs.Ytcccfckefjjoiaa
open Go.RowKit Go.Mem Go.Maps

theorem laidOut : laidOutB Try.prog = true := by kernel_rfl
theorem placeRow : (53 : TypeId) < Try.prog.types.size := of_decide_eq_true (by kernel_rfl)
theorem placeWide : (match Try.prog.underlying 53 with | some (.array _ _) | some (.struct _) => true | _ => false) = true := by rw [Try.underlying53]
theorem placeLaw : Keyed Try.prog 53 := Keyed.of_law (deep_law_laid laidOut (m := 2) (by omega) placeRow (by kernel_rfl) placeWide)
theorem placeCells : Try.prog.cellsOf 53 = 2 := by kernel_rfl
theorem u32Cells : Try.prog.cellsOf 28 = 1 := by kernel_rfl
theorem placeKey : Try.prog.keyType 53 = true := by kernel_rfl
theorem zeroU8 (w : World) : (zeroValue 5).run Try.prog w = .ok (.int .u8 0) w := by kernel_rfl

/-- A place, and what it reads as. -/
def pv (x y : Int) : Value := .agg #[.int .u32 x, .int .u32 y]
def plit (x y : Int) : Lit := .string (keyBytes [.int .u32 x, .int .u32 y])

theorem wf_u32 {x : Int} (h0 : 0 ≤ x) (h1 : x < 4294967296) : (Lit.int .u32 x).wf = true := WalkArith.wf_u32 ⟨h0, by omega⟩

theorem keyLits_u32 (n : Nat) (x : Int) (h : (Lit.int .u32 x).wf = true) : Try.prog.keyLits (n + 1) 28 [.int .u32 x] = some [.int .u32 x] := by
  unfold Program.keyLits
  rw [Try.underlying28]
  simp [h]

theorem keyLits_place (n : Nat) (x y : Int) (hx : (Lit.int .u32 x).wf = true) (hy : (Lit.int .u32 y).wf = true) : Try.prog.keyLits (n + 2) 53 [.int .u32 x, .int .u32 y] = some [.int .u32 x, .int .u32 y] := by
  unfold Program.keyLits
  rw [Try.underlying53]
  simp [placeCells, u32Cells, keyLits_u32 _ _ hx, keyLits_u32 _ _ hy]

theorem keyOf_place (x y : Int) (hx : (Lit.int .u32 x).wf = true) (hy : (Lit.int .u32 y).wf = true) : keyOf Try.prog 53 (pv x y) = some (plit x y) := by
  have hf : (pv x y).formed Try.prog 53 = true := by simp [pv, Value.formed, Try.underlying53, placeCells]
  have hs : ∃ n, Try.prog.types.size + 1 = n + 2 := ⟨Try.prog.types.size - 1, by have h : 0 < Try.prog.types.size := Nat.lt_of_le_of_lt (Nat.zero_le _) placeRow; omega⟩
  obtain ⟨n, hn⟩ := hs
  unfold keyOf
  rw [Try.underlying53]
  simp only [placeKey, hf, Bool.and_self, if_true, hn]
  show (Program.keyLits _ _ _ [.int .u32 x, .int .u32 y]).map _ = _
  rw [keyLits_place n x y hx hy]
  rfl

theorem keyLits_u32_inv (n : Nat) (v : Value) (L : List Lit) (h : Try.prog.keyLits (n + 1) 28 [v] = some L) : ∃ x, v = .int .u32 x := by
  unfold Program.keyLits at h
  rw [Try.underlying28] at h
  cases v <;> simp at h
  exact ⟨_, by rw [h.1.1]⟩

/-- What reads as a key of this type is a place. -/
theorem place_inv {key : Value} {k : Lit} (h : keyOf Try.prog 53 key = some k) : ∃ p : Int × Int, key = pv p.1 p.2 := by
  obtain ⟨xs, L, rfl, h1, _⟩ := keyOf_top placeWide h
  obtain ⟨n, hn⟩ : ∃ n, Try.prog.types.size + 1 = n + 2 := ⟨Try.prog.types.size - 1, by have h : 0 < Try.prog.types.size := Nat.lt_of_le_of_lt (Nat.zero_le _) placeRow; omega⟩
  rw [hn] at h1
  obtain ⟨l⟩ := xs
  unfold Program.keyLits at h1
  rw [Try.underlying53] at h1
  simp only [placeCells] at h1
  split at h1
  · rename_i hc
    match l, hc.1 with
    | [c0, c1], _ =>
      simp [u32Cells] at h1
      cases h2 : Try.prog.keyLits (n + 1) 28 [c0] with
      | none => simp [h2] at h1
      | some L0 =>
        cases h3 : Try.prog.keyLits (n + 1) 28 [c1] with
        | none => simp [h2, h3] at h1
        | some L1 =>
          obtain ⟨x, rfl⟩ := keyLits_u32_inv n c0 L0 h2
          obtain ⟨y, rfl⟩ := keyLits_u32_inv n c1 L1 h3
          exact ⟨(x, y), rfl⟩
  · cases h1

end Go.Proofs.Ytcccfckefjjoiaa
