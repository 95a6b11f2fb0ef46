/- A map of places that reads as cells: put, delete, look up. -/
import Derived.Test.YtcccfckefjjoiaaMemKey
namespace Go.Proofs.Ytcccfckefjjoiaa
open Go.RowKit Go.Mem Go.Maps

/-- The place of an address, and its key. -/
def kl (a : Int) : Lit := plit (a / 4) (a % 4)
def av (a : Int) : Value := pv (a / 4) (a % 4)

theorem keyOf_at {a : Int} (h0 : 0 ≤ a) (h1 : a < 4294967296) : keyOf Try.prog 53 (av a) = some (kl a) := keyOf_place _ _ (wf_u32 (by omega) (by omega)) (wf_u32 (by omega) (by omega))

theorem kl_inj {a b : Int} (a0 : 0 ≤ a) (a1 : a < 4294967296) (b0 : 0 ≤ b) (b1 : b < 4294967296) (h : kl a = kl b) : a = b := by
  have e := placeLaw.inj (keyOf_at a0 a1) (h ▸ keyOf_at b0 b1)
  simp [av, pv] at e
  omega

theorem kl_key {a : Int} (h0 : 0 ≤ a) (h1 : a < 4294967296) : WideAt.IsKeyLit (kl a) := placeLaw.key (keyOf_at h0 h1)

/-- A map that reads as cells. -/
structure MapIs (D : DataW Unit) (c : Cells) : Prop where
  canon : Canon c
  inr : InR c
  tidy : Tidy D
  has_ : ∀ a, 0 ≤ a → a < 4294967296 → Maps.has D (kl a) = !(getL c a == 0)
  val : ∀ a, 0 ≤ a → a < 4294967296 → D.atKey (kl a) (.lit (.int .u8 0)) = .lit (.int .u8 (getL c a))
  keys : ∀ k, Maps.has D k = true → ∃ a, 0 ≤ a ∧ a < 4294967296 ∧ k = kl a
  size_ : Maps.size D = c.length

theorem mapIs_nil : MapIs (.map []) [] where
  canon := canon_nil
  inr := inR_nil
  tidy := tidy_empty
  has_ _ _ _ := rfl
  val _ _ _ := rfl
  keys _ h := by cases h
  size_ := rfl

theorem MapIs.put {D : DataW Unit} {c : Cells} (h : MapIs D c) {a b : Int} (h0 : 0 ≤ a) (h1 : a < 4294967296) (hb : b ≠ 0) (b0 : 0 ≤ b) (b1 : b < 256) :
    MapIs (D.put (kl a) (.lit (.int .u8 b))) (putL c a b) where
  canon := canon_put h.canon a b
  inr := h.inr.put h0 h1 b0 b1
  tidy := h.tidy.put (kl_key h0 h1) _
  has_ x x0 x1 := by
    rw [getL_put]
    by_cases e : x = a
    · subst e
      rw [has_put_same h.tidy.isMap (kl_key h0 h1), if_pos rfl]
      simp [hb]
    · rw [has_put_other (fun k => e (kl_inj x0 x1 h0 h1 k)), if_neg e]
      exact h.has_ x x0 x1
  val x x0 x1 := by
    rw [getL_put]
    by_cases e : x = a
    · subst e
      rw [atKey_put_same h.tidy.isMap (kl_key h0 h1), if_pos rfl]
    · rw [atKey_put_other (fun k => e (kl_inj x0 x1 h0 h1 k)), if_neg e]
      exact h.val x x0 x1
  keys k hk := by
    by_cases e : k = kl a
    · exact ⟨a, h0, h1, e⟩
    · rw [has_put_other e] at hk
      exact h.keys k hk
  size_ := by
    rw [size_put h.tidy, h.has_ a h0 h1, length_put h.canon a b hb, h.size_]
    by_cases e : getL c a = 0 <;> simp [e]

theorem MapIs.del {D : DataW Unit} {c : Cells} (h : MapIs D c) {a : Int} (h0 : 0 ≤ a) (h1 : a < 4294967296) : MapIs (D.del (kl a)) (putL c a 0) where
  canon := canon_put h.canon a 0
  inr := h.inr.put h0 h1 (by omega) (by omega)
  tidy := h.tidy.del _
  has_ x x0 x1 := by
    rw [getL_put]
    by_cases e : x = a
    · subst e
      rw [has_del_same, if_pos rfl]
      rfl
    · rw [has_del_other (fun k => e (kl_inj x0 x1 h0 h1 k)), if_neg e]
      exact h.has_ x x0 x1
  val x x0 x1 := by
    rw [getL_put]
    by_cases e : x = a
    · subst e
      rw [atKey_del_same, if_pos rfl]
    · rw [atKey_del_other (fun k => e (kl_inj x0 x1 h0 h1 k)), if_neg e]
      exact h.val x x0 x1
  keys k hk := by
    by_cases e : k = kl a
    · subst e; rw [has_del_same] at hk; cases hk
    · rw [has_del_other e] at hk
      exact h.keys k hk
  size_ := by
    have k1 := size_del (k := kl a) h.tidy
    have k2 := length_del h.canon a
    rw [h.has_ a h0 h1, h.size_] at k1
    by_cases e : getL c a = 0
    · simp [e] at k1 k2; omega
    · simp [e] at k1 k2; omega

/-- How elements read. -/
noncomputable def elemR : Value → Option (DataW Unit × List MemPlace) := plainElem Try.prog 5

/-- A memory: the pointer's block, the map's block, its cells. -/
def MemAt (w : World) (b bm : Nat) (c : Cells) : Prop :=
  w.cell? ⟨b, 0, none⟩ = some (.map (some bm)) ∧ ∃ D, w.ownsMap Try.prog 53 elemR bm c.length D ∧ MapIs D c

theorem tight {P : Program} {k : TypeId} {R : Value → Option (DataW Unit × List MemPlace)} {w : World} {b n : Nat} {D : DataW Unit} (h : w.ownsMap P k R b n D) : w.ownsMap P k R b (Maps.size D) D := by
  obtain ⟨es, clock, hb, F, hs, rfl⟩ := h
  exact ⟨es, clock, hb, F, by simp [Maps.size, length_sorted], rfl⟩

theorem MemAt.is {w : World} {b bm : Nat} {c : Cells} (h : MemAt w b bm c) : Canon c ∧ InR c := by
  obtain ⟨_, D, _, hd⟩ := h
  exact ⟨hd.canon, hd.inr⟩

theorem MemAt.ne {w : World} {b bm : Nat} {c : Cells} (h : MemAt w b bm c) : b ≠ bm := by
  obtain ⟨hc, D, ⟨es, clock, hb, _⟩, _⟩ := h
  rintro rfl
  simp [World.cell?, hb] at hc

theorem MemAt.lt {w : World} {b bm : Nat} {c : Cells} (h : MemAt w b bm c) : b < w.heap.size ∧ bm < w.heap.size := by
  obtain ⟨hc, D, ho, _⟩ := h
  exact ⟨World.block_lt_of_cell? w _ hc, ho.lt⟩

theorem MemAt.kept {w w' : World} {b bm : Nat} {c : Cells} (h : MemAt w b bm c) {row : Option Nat} (hg : w.grownBy w' row) (h1 : some b ≠ row) (h2 : some bm ≠ row) : MemAt w' b bm c := by
  have hl := h.lt
  obtain ⟨hc, D, ho, hd⟩ := h
  exact ⟨by rw [World.cell?_of_block (hg.block b hl.1 h1)]; exact hc, D, ho.kept hg h2, hd⟩

theorem MemAt.below {w w' : World} {b bm : Nat} {c : Cells} (h : MemAt w b bm c) {B : Nat} (hb : Below B w w') (h1 : b < B) (h2 : bm < B) : MemAt w' b bm c := by
  obtain ⟨hc, D, ⟨es, clock, hm, r⟩, hd⟩ := h
  exact ⟨by rw [hb.cell (p := ⟨b, 0, none⟩) h1]; exact hc, D, ⟨es, clock, (hb.block bm h2).trans hm, r⟩, hd⟩

theorem MemAt.alloc {w : World} {b bm : Nat} {c : Cells} (h : MemAt w b bm c) (o : Obj) : MemAt (w.alloc o) b bm c := h.kept (World.grownBy_alloc w o none) (by simp) (by simp)
theorem MemAt.drew {w : World} {b bm : Nat} {c : Cells} (h : MemAt w b bm c) : MemAt w.drew b bm c := h

end Go.Proofs.Ytcccfckefjjoiaa
