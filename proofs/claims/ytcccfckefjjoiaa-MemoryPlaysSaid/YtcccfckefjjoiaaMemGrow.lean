/- Memory's 'Load' only draws and lays blocks. -/
import Derived.Test.YtcccfckefjjoiaaMemPost
import Derived.Shelf.SlSortCmp.QuietGrown
namespace Go.Proofs.Ytcccfckefjjoiaa
open Go.RowKit Go.Mem Go.Sort

/-- Draws, and blocks behind. -/
def Gr (w w' : World) : Prop := ∃ q os, w' = grow (w.drewN q) os
theorem Gr.refl (w : World) : Gr w w := ⟨0, #[], by rw [grow_empty]; rfl⟩
theorem Gr.alloc {w w' : World} (h : Gr w w') (o : Obj) : Gr w (w'.alloc o) := by
  obtain ⟨q, os, rfl⟩ := h
  exact ⟨q, os ++ #[o], by rw [alloc_eq_grow, grow_grow]⟩
theorem Gr.drew {w w' : World} (h : Gr w w') : Gr w w'.drew := by
  obtain ⟨q, os, rfl⟩ := h
  exact ⟨q + 1, os, rfl⟩
theorem Gr.below {w w' : World} (h : Gr w w') : Below w.heap.size w w' := by
  obtain ⟨q, os, rfl⟩ := h
  refine ⟨rfl, rfl, rfl, by simp [grow], fun k hk => ?_⟩
  show (w.heap ++ os)[k]? = _
  rw [Array.getElem?_append_left hk]

set_option maxHeartbeats 1000000 in
theorem load_gr (w : World) (b bm : Nat) (c : Cells) (a n : Int) (hs : sizeB n = true) (hm : MemAt w b bm c) :
    Calls Try.prog 11 #[.pointer (some ⟨b, 0, none⟩), .int .u32 a, .int .i64 n] w fun e w' => e = .returned (.int .u32 (loadN c a n.toNat)) ∧ Gr w w' := by
  have hlt := hm.lt
  have hn : n = 1 ∨ n = 2 ∨ n = 4 := by unfold sizeB at hs; simp at hs; omega
  have HN := Lib.hid hn
  have n0 : 0 ≤ n := by omega
  have n4 : n ≤ 4 := by omega
  clear hn
  go_enter Try.func11, Try.ntmps11
  go_wp2_with (go_at_call 20; refine (size_any n _).mono ?_; rintro e w' ⟨rfl, rfl⟩)
  go_loopw [7, 19] (fun v k wr => ∃ (i : Nat) (V : Int), (i : Int) ≤ n ∧ k = .int .u32 i ∧ v = .int .u32 V ∧ Hid (V + 256 ^ i * loadN c (a + i) (n.toNat - i) = loadN c a n.toNat ∧ 0 ≤ V ∧ V < 256 ^ i) ∧ MemAt wr b bm c ∧ Gr w wr) (fun _ k _ => 4 - (intOf k).toNat)
  case atStart => exact ⟨0, 0, by omega, rfl, rfl, ⟨by simp, by omega, by simp⟩, hm, Gr.refl _⟩
  case round =>
    obtain ⟨i, V, hi, rfl, rfl, HV, hmr, hbr⟩ := hrel
    by_cases hlt2 : (i : Int) < n
    · obtain ⟨hc, _⟩ := id hmr
      have hr0 : 0 ≤ w32 (a + i) := by unfold w32; omega
      have hr1 : w32 (a + i) < 4294967296 := by unfold w32; omega
      have hl := fun o => (hmr.alloc o).drew.look hr0 hr1
      have hbl := World.block_lt_of_cell? wr _ hc
      have he : IntKind.u32.wrap (a + i) = w32 (a + i) := wrap_u32 _
      have hof := fun W => of_any (w32 (a + i)) W hr0 hr1
      generalize hx : w32 (a + i) = x at *
      have hg := hmr.is.2.get x
      generalize hy : getL c x = g at *
      have HX := Lib.hid hx
      have HY := Lib.hid hy
      clear hx hy
      obtain ⟨HV, V0, V1⟩ := HV.out
      have HV := Lib.hid HV
      have hv := or_step V g i (by omega) V0 V1 hg.1 hg.2
      have hnew : Hid (V + 256 ^ i * g + 256 ^ (i + 1) * loadN c (a + ((i + 1 : Nat) : Int)) (n.toNat - (i + 1)) = loadN c a n.toNat ∧ 0 ≤ V + 256 ^ i * g ∧ V + 256 ^ i * g < 256 ^ (i + 1)) := by
        have e1 := HV.out
        obtain ⟨m, hm1⟩ : ∃ m, n.toNat - i = m + 1 := ⟨n.toNat - i - 1, by omega⟩
        have hm2 : n.toNat - (i + 1) = m := by omega
        rw [hm1, loadN, HX.out, HY.out] at e1
        rw [hm2]
        have e2 : a + (i : Int) + 1 = a + ((i + 1 : Nat) : Int) := by push_cast; omega
        rw [e2] at e1
        have hp : (256 : Int) ^ (i + 1) = 256 ^ i * 256 := Int.pow_succ _ _
        have p0 : (0 : Int) < 256 ^ i := Int.pow_pos (by omega)
        refine ⟨?_, ?_, ?_⟩
        · rw [hp, ← e1, Int.mul_add, Int.mul_assoc, Int.add_assoc]
        · have := Int.mul_nonneg (Int.le_of_lt p0) hg.1
          omega
        · rw [hp]
          have := Int.mul_le_mul_of_nonneg_left (show g ≤ 255 by omega) (Int.le_of_lt p0)
          omega
      clear HV HX HY V1
      have hi1 : ((i + 1 : Nat) : Int) ≤ n := by omega
      have h4 : i = 0 ∨ i = 1 ∨ i = 2 ∨ i = 3 := by omega
      rcases h4 with rfl | rfl | rfl | rfl
      all_goals
        simp only [Int.cast_ofNat_Int, Int.add_zero, Int.mul_zero, Int.mul_one, Int.reduceMul] at he hv hlt2
        generalize hV2 : V + 256 ^ _ * g = V2 at hv hnew
        clear hV2
        go_wp2_with fail
        go_region_held3 (fun w' => w'.cell? ⟨b, 0, none⟩ = some (.map (some bm)))
          (first | go_keep)
          (first | (go_at_call 21; refine (hof _).mono ?_; rintro e w' ⟨rfl, cs, rfl⟩))
        go_wp2
        go_roundw
        case rel => exact ⟨_, V2, hi1, rfl, rfl, hnew, (hmr.alloc _).drew, (hbr.alloc _).drew⟩
        case measure => simp [intOf]
    · have e : i = n.toNat := by omega
      subst e
      have e := HV.out.1
      rw [Nat.sub_self, loadN, Int.mul_zero, Int.add_zero] at e
      subst e
      go_wp2
      go_ret
      exact ⟨rfl, hbr⟩


theorem load_gr_full (w : World) (b bm : Nat) (c : Cells) (a n : Int) (hm : MemAt w b bm c) :
    Calls Try.prog 11 #[.pointer (some ⟨b, 0, none⟩), .int .u32 a, .int .i64 n] w fun e w' => e = .returned (.int .u32 (loadL c a n)) ∧ Gr w w' := by
  unfold loadL
  cases hs : sizeB n
  · exact (load_size b a n w hs).mono fun e w' ⟨he, hw⟩ => ⟨he, hw ▸ Gr.refl _⟩
  · exact load_gr w b bm c a n hs hm

/-- In a world of the class: as a drawn region asks it. -/
theorem load_at (w : World) (b bm : Nat) (c : Cells) (a x : Int) (hm : MemAt w b bm c) (k : Nat) (os : Array Obj) :
    Calls Try.prog 11 #[.pointer (some ⟨b, 0, none⟩), .int .u32 a, .int .i64 x] (grow (w.drewN k) os) fun e w' => e = .returned (.int .u32 (loadL c a x)) ∧ ∃ q os', w' = grow ((grow (w.drewN k) os).drewN q) os' :=
  load_gr_full _ b bm c a x (hm.below (Gr.below ⟨k, os, rfl⟩) hm.lt.1 hm.lt.2)

theorem mixed : Try.prog.follows .mixedOrders = true := by kernel_rfl

end Go.Proofs.Ytcccfckefjjoiaa
