/- The reference's 'New', 'Store', 'Same'; memory's 'New'. -/
import Derived.Test.YtcccfckefjjoiaaMemPut
import Derived.Test.YtcccfckefjjoiaaMemStore
namespace Go.Proofs.Ytcccfckefjjoiaa
open Go.RowKit Go.Mem

theorem own_slice {w : World} {base : Nat} {e : TypeId} {v : Value} {c : Cells} (h : w.ownsRow base e 2 v c.length (encC c)) : ∃ A cap, v = .slice A c.length cap ∧ ClAt w w.heap.size A c := by
  have key : ∃ A cap, v = .slice A c.length cap := by
    rcases h.2 with ⟨hv, h0⟩ | ⟨g, cap', cur, hv, _⟩
    · exact ⟨none, 0, by rw [hv, h0]⟩
    · exact ⟨_, _, hv⟩
  obtain ⟨A, cap, rfl⟩ := key
  exact ⟨A, cap, rfl, ClAt.of_own h⟩

/-- What a call hands back that makes cells. -/
def RetCells (w : World) (c : Cells) (e : Ending) (w' : World) : Prop := ∃ A' cap', e = .returned (.slice A' c.length cap') ∧ ClAt w' w'.heap.size A' c ∧ Below w.heap.size w w'

theorem below_drewN {B : Nat} {a w : World} (h : Below B a w) (n : Nat) : Below B a (w.drewN n) := h.trans ⟨rfl, rfl, rfl, Nat.le_refl _, fun _ _ => rfl⟩

theorem rPut_any (c : Cells) (A : Option Addr) (cap : Nat) (a b : Int) (w : World) (h : ClAt w w.heap.size A c) (hl : c.length ≤ 4294967296) :
    Calls Try.prog 19 #[.slice A c.length cap, .int .u32 a, .int .u8 b] w (RetCells w (putL c a b)) :=
  (rPut_go c A cap a b (b == 0) w h hl rfl).mono fun e w' ⟨v, he, ho, hb⟩ => by
    obtain ⟨A', cap', rfl, hc⟩ := own_slice ho
    exact ⟨A', cap', he, hc, hb⟩

theorem take_snoc' {α : Type} (l : List α) (k : Nat) (h : k < l.length) : l.take (k + 1) = l.take k ++ [l[k]] := List.take_succ_eq_append_getElem h

set_option maxHeartbeats 2000000 in
theorem rNew_any (l : Cells) (A : Option Addr) (cap : Nat) (w : World) (h : ClAt w w.heap.size A l) (hl : l.length ≤ 4294967296) :
    Calls Try.prog 10 #[.slice A l.length cap] w (RetCells w (newL l)) := by
  go_enter Try.func10, Try.ntmps10
  go_wp2
  go_loopw [3, 4] (fun o k wr => ∃ (i : Nat) (A' : Option Addr) (cap' : Nat), i ≤ l.length ∧ k = .int .i64 i ∧ o = .slice A' (newL (l.take i)).length cap' ∧ ClAt wr wr.heap.size A' (newL (l.take i)) ∧ Below w.heap.size w wr) (fun _ k _ => l.length - (intOf k).toNat)
  case atStart => exact ⟨0, none, 0, by omega, rfl, rfl, ClAt.nil _ _ _, Below.refl _ _⟩
  case round =>
    obtain ⟨i, A', cap', hi, rfl, rfl, hcl, hbr⟩ := hrel
    by_cases hlt : i < l.length
    · obtain ⟨g, off, rfl, hg, h1, h2⟩ := (h.below hbr (Nat.le_refl _)).at_ hlt
      have HT := Lib.hid (take_snoc' l i hlt)
      generalize hp : l[i] = p at *
      obtain ⟨pa, pb⟩ := p
      simp only at h1 h2
      clear hp
      have hlen : (newL (l.take i)).length ≤ 4294967296 := by have := length_new_le (l.take i); simp at this; omega
      have hput := fun W (hW : ClAt W W.heap.size A' (newL (l.take i))) => rPut_any (newL (l.take i)) A' cap' pa pb W hW hlen
      have HN : Hid (newL (l.take (i + 1)) = putL (newL (l.take i)) pa pb) := Lib.hid (by rw [HT.out, newL_snoc])
      generalize newL (l.take i) = c' at *
      have hbs := hbr.size
      clear HT
      go_wp2_with fail
      go_region_held3 (fun w' => w'.cell? ⟨g, off + i * 2, none⟩ = some (.int .u32 pa) ∧ w'.cell? ⟨g, off + i * 2 + 1, none⟩ = some (.int .u8 pb))
        (first
          | go_keep
          | (exact ⟨(hb2.cell (p := ⟨g, off + i * 2, none⟩) (by simp; omega)).trans h1, (hb2.cell (p := ⟨g, off + i * 2 + 1, none⟩) (by simp; omega)).trans h2⟩))
        (first
          | (go_at_call 19; refine (hput _ (by exact hcl)).mono ?_; rintro e w' ⟨A2, cap2, rfl, hA2, hb2⟩))
      clear hput
      go_wp2
      go_roundw
      case rel => exact ⟨i + 1, A2, cap2, by omega, by go_num, by rw [HN.out], by rw [HN.out]; exact hA2, hbr.drew.trans (Below.mono hb2 hbs)⟩
      case measure => simp [intOf]; omega
    · have e : i = l.length := by omega
      subst e
      have HT := Lib.hid (show l.take l.length = l from List.take_length)
      go_wp2
      go_ret
      rw [HT.out] at hcl
      rw [HT.out]
      exact ⟨A', cap', rfl, hcl, hbr⟩

set_option maxHeartbeats 2000000 in
theorem rStore_any (c : Cells) (A : Option Addr) (cap : Nat) (a n v : Int) (w : World) (h : ClAt w w.heap.size A c) (hl : c.length ≤ 4294967290) (hs : sizeB n = true) (v0 : 0 ≤ v) (v1 : v < 4294967296) :
    Calls Try.prog 14 #[.slice A c.length cap, .int .u32 a, .int .i64 n, .int .u32 v] w (RetCells w (storeN c a v n.toNat)) := by
  have hn : n = 1 ∨ n = 2 ∨ n = 4 := by unfold sizeB at hs; simp at hs; omega
  have HN := Lib.hid hn
  have n0 : 0 ≤ n := by omega
  have n4 : n ≤ 4 := by omega
  clear hn
  go_enter Try.func14, Try.ntmps14
  go_wp2_with (go_at_call 22; refine (rsize_any n _).mono ?_; rintro e w' ⟨rfl, rfl⟩)
  go_loopw [0, 3, 9] (fun o u k wr => ∃ (i : Nat) (c' : Cells) (A' : Option Addr) (cap' : Nat) (V : Int), (i : Int) ≤ n ∧ k = .int .i64 i ∧ u = .int .u32 V ∧ 0 ≤ V ∧ V < 4294967296 ∧ o = .slice A' c'.length cap' ∧ c'.length ≤ c.length + i ∧ ClAt wr wr.heap.size A' c' ∧ Hid (storeN c' (a + i) V (n.toNat - i) = storeN c a v n.toNat) ∧ Below w.heap.size w wr) (fun _ _ k _ => (n - intOf k).toNat)
  case atStart => exact ⟨0, c, A, cap, v, by omega, rfl, rfl, v0, v1, rfl, by omega, h, Lib.hid (by simp), Below.refl _ _⟩
  case round =>
    obtain ⟨i, c', A', cap', V, hi, rfl, rfl, hV0, hV1, rfl, hlen, hcl, HV, hbr⟩ := hrel
    by_cases hlt2 : (i : Int) < n
    · have hnew : Hid (storeN (putL c' (w32 (a + i)) (V % 256)) (a + ((i + 1 : Nat) : Int)) (V / 256) (n.toNat - (i + 1)) = storeN c a v n.toNat) := by
        have e1 := HV.out
        obtain ⟨m, hm1⟩ : ∃ m, n.toNat - i = m + 1 := ⟨n.toNat - i - 1, by omega⟩
        have hm2 : n.toNat - (i + 1) = m := by omega
        rw [hm1, storeN_step] at e1
        rw [hm2]
        have e2 : a + (i : Int) + 1 = a + ((i + 1 : Nat) : Int) := by push_cast; omega
        rw [e2] at e1
        exact e1
      have hput := rPut_any c' A' cap' (w32 (a + i)) (V % 256) wr hcl (by omega)
      have he : (a + (i : Int)) % 4294967296 = w32 (a + i) := rfl
      have hlp := length_put_le c' (w32 (a + i)) (V % 256)
      have hbs := hbr.size
      generalize w32 (a + i) = x at *
      clear HV hcl h
      go_wp2_with (go_at_call 19; refine hput.mono ?_; rintro e w' ⟨A2, cap2, rfl, hA2, hb2⟩; clear hput)
      go_roundw
      case rel => exact ⟨i + 1, _, A2, cap2, _, by omega, by go_num, rfl, by omega, by omega, rfl, by omega, hA2, hnew, hbr.trans (hb2.mono hbs)⟩
      case measure => simp [intOf]; omega
    · obtain rfl : n = (i : Int) := by omega
      have e := HV.out
      rw [Int.toNat_natCast, Nat.sub_self, storeN] at e
      have E := Lib.hid e
      clear e
      go_wp2
      go_ret
      rw [← E.out]
      exact ⟨A', cap', rfl, hcl, hbr⟩

theorem rLoad_full (c : Cells) (A : Option Addr) (cap : Nat) (a n : Int) (w : World) (h : ClAt w w.heap.size A c) (hl : c.length ≤ maxLen) (hr : InR c) :
    Calls Try.prog 12 #[.slice A c.length cap, .int .u32 a, .int .i64 n] w fun e w' => e = .returned (.int .u32 (loadL c a n)) ∧ w = w' := by
  unfold loadL
  cases hs : sizeB n
  · go_enter Try.func12, Try.ntmps12
    go_wp2_with (go_at_call 22; refine (rsize_any n _).mono ?_; rintro e w' ⟨rfl, rfl⟩)
    go_ret
    exact ⟨rfl, rfl⟩
  · exact rLoad_any c A cap a n w h hl hr hs

theorem rStore_full (c : Cells) (A : Option Addr) (cap : Nat) (a n v : Int) (w : World) (h : ClAt w w.heap.size A c) (hl : c.length ≤ 4294967290) (v0 : 0 ≤ v) (v1 : v < 4294967296) :
    Calls Try.prog 14 #[.slice A c.length cap, .int .u32 a, .int .i64 n, .int .u32 v] w (RetCells w (storeL c a n v)) := by
  unfold storeL
  have hA := h
  cases hs : sizeB n
  · go_enter Try.func14, Try.ntmps14
    go_wp2_with (go_at_call 22; refine (rsize_any n _).mono ?_; rintro e w' ⟨rfl, rfl⟩)
    go_ret
    exact ⟨A, cap, rfl, hA, Below.refl _ _⟩
  · exact rStore_any c A cap a n v w h hl hs v0 v1

theorem cellNeq (x y : Int) (w : World) : (binOp .neq 42 (.agg #[.int .u32 x, .int .u8 y]) (.agg #[.int .u32 x, .int .u8 y])).run Try.prog w = .ok (.bool false) w := by
  have u1 := Try.underlying28
  have u2 := Try.underlying5
  have hS : Try.prog.underlying 42 = some (.struct (Try.prog.fieldsOf 42)) := by kernel_rfl
  have hp : Try.prog.stoodInHeld 42 = false := by kernel_rfl
  have a1 := Try.isAgg28
  have z1 := Try.sizeOf28
  have a2 := Try.isAgg5
  have z2 := Try.sizeOf5
  rw [run_neq_struct, show (10000 : Nat) = 9999 + 1 from rfl, run_equalIn_agg w 9999 42 _ _ hS hp]
  simp only [Program.fieldsOf, Try.underlying42]
  go_simp

set_option maxHeartbeats 2000000 in
/-- Two rows of the same cells. -/
theorem rSame_any (c : Cells) (A A' : Option Addr) (cap cap' : Nat) (w : World) (h : ClAt w w.heap.size A c) (h' : ClAt w w.heap.size A' c) (hl : c.length ≤ 4294967296) :
    Calls Try.prog 16 #[.slice A c.length cap, .slice A' c.length cap'] w fun e w' => e = .returned (.bool true) ∧ Below w.heap.size w w' := by
  go_enter Try.func16, Try.ntmps16
  go_wp2
  go_loopw [5] (fun k wr => ∃ (i : Nat), i ≤ c.length ∧ k = .int .i64 i ∧ Below w.heap.size w wr) (fun k _ => c.length - (intOf k).toNat)
  case atStart => exact ⟨0, by omega, rfl, Below.refl _ _⟩
  case round =>
    obtain ⟨i, hi, rfl, hbr⟩ := hrel
    by_cases hlt : i < c.length
    · obtain ⟨g, off, rfl, hg, h1, h2⟩ := (h.below hbr (Nat.le_refl _)).at_ hlt
      obtain ⟨g', off', rfl, hg', h1', h2'⟩ := (h'.below hbr (Nat.le_refl _)).at_ hlt
      generalize hp : c[i] = p at *
      obtain ⟨pa, pb⟩ := p
      simp only at h1 h2 h1' h2'
      clear hp
      have hcn := cellNeq pa pb
      have hi0 : (0 : Int) ≤ (i : Int) := by omega
      have hi1 : (i : Int) < (c.length : Int) := by omega
      go_wp2_with fail
      go_quiet (fail)
      go_wp2
      go_roundw
      case rel => exact ⟨i + 1, by omega, by go_num, below_drewN hbr _⟩
      case measure => simp [intOf]; omega
    · have e : i = c.length := by omega
      subst e
      go_wp2
      go_ret
      exact ⟨rfl, hbr⟩

theorem Blk_cell (w : World) (t : TypeId) (v : Value) : (w.alloc (.cells #[v] t)).cell? ⟨w.heap.size, 0, none⟩ = some v := by
  rw [cell_of_row _ _ _ _ t (0, 0) (heap_alloc_new w _)]
  rfl

set_option maxHeartbeats 2000000 in
theorem new_any (l : Cells) (A : Option Addr) (cap : Nat) (w : World) (h : ClAt w w.heap.size A l) (hl : l.length ≤ 4294967296) (hr : InR l) :
    Calls Try.prog 9 #[.slice A l.length cap] w fun e w' => e = .returned (.pointer (some ⟨w.heap.size + 1, 0, none⟩)) ∧ MemAt w' (w.heap.size + 1) w.heap.size (newL l) ∧ Below w.heap.size w w' := by
  have hmm := @run_makeMap Try.prog
  go_enter Try.func9, Try.ntmps9
  go_wp2
  go_loopw [5, 11] (fun x k wr => ∃ i : Nat, i ≤ l.length ∧ k = .int .i64 i ∧ MemAt wr (w.heap.size + 1) w.heap.size (newL (l.take i)) ∧ Below w.heap.size w wr) (fun _ k _ => l.length - (intOf k).toNat)
  case atStart =>
    refine ⟨0, by omega, rfl, ⟨?_, .map [], ?_, mapIs_nil⟩, ((Below.refl _ _).alloc (Nat.le_refl _) _).alloc (by simp) _⟩
    · have e : w.heap.size + 1 = (w.alloc (Obj.map #[] 0)).heap.size := by simp
      rw [e]
      exact Blk_cell _ _ _
    · exact World.ownsMap.alloc (World.ownsMap_made w _ _ _) _
  case round =>
    obtain ⟨i, hi, rfl, hm, hbr⟩ := hrel
    by_cases hlt : i < l.length
    · obtain ⟨g, off, rfl, hg, h1, h2⟩ := (h.below hbr (Nat.le_refl _)).at_ hlt
      have HT := Lib.hid (take_snoc' l i hlt)
      have hp2 := hr _ (List.getElem_mem hlt)
      generalize hp : l[i] = p at *
      obtain ⟨pa, pb⟩ := p
      simp only at h1 h2 hp2
      clear hp
      have hset := fun W (hW : MemAt W (w.heap.size + 1) w.heap.size (newL (l.take i))) => set_any W _ _ _ pa pb hp2.1 hp2.2.1 hp2.2.2.1 hp2.2.2.2 hW
      have HN : Hid (newL (l.take (i + 1)) = putL (newL (l.take i)) pa pb) := Lib.hid (by rw [HT.out, newL_snoc])
      generalize newL (l.take i) = c' at *
      have hbs := hbr.size
      clear HT hp2
      go_wp2_with (go_at_call 18; refine (hset _ (by exact hm.alloc _)).mono ?_; rintro e w' ⟨rfl, hm2, hg2⟩)
      go_roundw
      case rel => exact ⟨i + 1, by omega, by go_num, by rw [HN.out]; exact hm2, (hbr.alloc hbs _).grown hg2 (by simp; omega) (fun j hj => by cases hj; exact Nat.le_refl _)⟩
      case measure => simp [intOf]; omega
    · have e : i = l.length := by omega
      subst e
      have HT := Lib.hid (show l.take l.length = l from List.take_length)
      rw [HT.out] at hm
      go_wp2
      go_ret
      exact ⟨rfl, hm, hbr⟩

end Go.Proofs.Ytcccfckefjjoiaa
