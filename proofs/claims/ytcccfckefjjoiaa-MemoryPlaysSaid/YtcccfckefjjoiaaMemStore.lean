/- Memory's 'Store', 'Len', 'New'. -/
import Derived.Test.YtcccfckefjjoiaaMemLoad
namespace Go.Proofs.Ytcccfckefjjoiaa
open Go.RowKit Go.Mem Go.Maps

theorem store_nil (a n v : Int) (w : World) : Calls Try.prog 13 #[.pointer none, .int .u32 a, .int .i64 n, .int .u32 v] w fun e w' => e = .returned (.tuple #[]) ∧ w = w' := by
  go_enter Try.func13, Try.ntmps13
  go_wp2
  refine bodyPost_ret (results_none rfl _ _ _) rfl ?_
  exact ⟨rfl, rfl⟩

theorem store_size (b : Nat) (a n v : Int) (w : World) (hs : sizeB n = false) : Calls Try.prog 13 #[.pointer (some ⟨b, 0, none⟩), .int .u32 a, .int .i64 n, .int .u32 v] w fun e w' => e = .returned (.tuple #[]) ∧ w = w' := by
  go_enter Try.func13, Try.ntmps13
  go_wp2_with (go_at_call 20; refine (size_any n _).mono ?_; rintro e w' ⟨rfl, rfl⟩)
  refine bodyPost_ret (results_none rfl _ _ _) rfl ?_
  exact ⟨rfl, rfl⟩

set_option maxHeartbeats 1000000 in
theorem store_any (w : World) (b bm : Nat) (c : Cells) (a n v : Int) (hs : sizeB n = true) (v0 : 0 ≤ v) (v1 : v < 4294967296) (hm : MemAt w b bm c) :
    Calls Try.prog 13 #[.pointer (some ⟨b, 0, none⟩), .int .u32 a, .int .i64 n, .int .u32 v] w fun e w' => e = .returned (.tuple #[]) ∧ MemAt w' b bm (storeN c a v n.toNat) ∧ w.grownBy w' (some bm) := by
  have hn : n = 1 ∨ n = 2 ∨ n = 4 := by unfold sizeB at hs; simp at hs; omega
  have HN := Lib.hid hn
  have n0 : 0 ≤ n := by omega
  have n4 : n ≤ 4 := by omega
  clear hn
  go_enter Try.func13, Try.ntmps13
  go_wp2_with (go_at_call 20; refine (size_any n _).mono ?_; rintro e w' ⟨rfl, rfl⟩)
  go_loopw [18] (fun k wr => ∃ (i : Nat) (c' : Cells), (i : Int) ≤ n ∧ k = .int .u32 i ∧ Hid (storeN c' (a + i) (v / 256 ^ i) (n.toNat - i) = storeN c a v n.toNat) ∧ MemAt wr b bm c' ∧ w.grownBy wr (some bm)) (fun k _ => 4 - (intOf k).toNat)
  case atStart => exact ⟨0, c, by omega, rfl, Lib.hid (by simp), hm, World.grownBy.refl _ _⟩
  case round =>
    obtain ⟨i, c', hi, rfl, HV, hmr, hbr⟩ := hrel
    by_cases hlt2 : (i : Int) < n
    · have hr0 : 0 ≤ w32 (a + i) := by unfold w32; omega
      have hr1 : w32 (a + i) < 4294967296 := by unfold w32; omega
      have he : IntKind.u32.wrap (a + i) = w32 (a + i) := wrap_u32 _
      have hnew : Hid (storeN (putL c' (w32 (a + i)) (v / 256 ^ i % 256)) (a + ((i + 1 : Nat) : Int)) (v / 256 ^ (i + 1)) (n.toNat - (i + 1)) = storeN c a v n.toNat) := by
        have e1 := HV.out
        obtain ⟨m, hm1⟩ : ∃ m, n.toNat - i = m + 1 := ⟨n.toNat - i - 1, by omega⟩
        have hm2 : n.toNat - (i + 1) = m := by omega
        rw [hm1, storeN_step] at e1
        rw [hm2]
        have e2 : a + (i : Int) + 1 = a + ((i + 1 : Nat) : Int) := by push_cast; omega
        have p0 : (0 : Int) ≤ 256 ^ i := Int.le_of_lt (Int.pow_pos (by omega))
        have e3 : v / 256 ^ (i + 1) = v / 256 ^ i / 256 := by rw [Int.pow_succ, Int.ediv_ediv_of_nonneg p0]
        rw [e2] at e1
        rw [e3]
        exact e1
      have hset := set_any wr b bm c' (w32 (a + i)) (v / 256 ^ i % 256) hr0 hr1 (by omega) (by omega) hmr
      have hi1 : ((i + 1 : Nat) : Int) ≤ n := by omega
      clear HV
      generalize w32 (a + i) = x at *
      generalize hg : v / 256 ^ i % 256 = g at *
      have h4 : i = 0 ∨ i = 1 ∨ i = 2 ∨ i = 3 := by omega
      rcases h4 with rfl | rfl | rfl | rfl
      all_goals
        simp only [Int.cast_ofNat_Int, Int.add_zero, Int.reducePow, Int.ediv_one] at he hlt2 hg
        try (have hg3 : v / 16777216 = g := by omega
             clear hg)
        go_wp2_with fail
        ((with_reducible refine hset.mono ?_))
        rintro e w' ⟨rfl, hm2, hg2⟩
        clear hset
        go_wp2
        go_roundw
        case rel => exact ⟨_, _, hi1, rfl, hnew, hm2, hbr.trans hg2⟩
        case measure => simp [intOf]
    · have e : i = n.toNat := by omega
      subst e
      have e := HV.out
      rw [Nat.sub_self, storeN] at e
      subst e
      go_wp2
      refine bodyPost_end (results_none rfl _ _ _) rfl ?_
      exact ⟨rfl, hmr, hbr⟩

/-- All sizes. -/
theorem load_full (w : World) (b bm : Nat) (c : Cells) (a n : Int) (hm : MemAt w b bm c) :
    Calls Try.prog 11 #[.pointer (some ⟨b, 0, none⟩), .int .u32 a, .int .i64 n] w fun e w' => e = .returned (.int .u32 (loadL c a n)) ∧ Below w.heap.size w w' := by
  unfold loadL
  cases hs : sizeB n
  · exact (load_size b a n w hs).mono fun e w' ⟨he, hw⟩ => ⟨he, hw ▸ Below.refl _ _⟩
  · exact load_any w b bm c a n hs hm

theorem store_full (w : World) (b bm : Nat) (c : Cells) (a n v : Int) (v0 : 0 ≤ v) (v1 : v < 4294967296) (hm : MemAt w b bm c) :
    Calls Try.prog 13 #[.pointer (some ⟨b, 0, none⟩), .int .u32 a, .int .i64 n, .int .u32 v] w fun e w' => e = .returned (.tuple #[]) ∧ MemAt w' b bm (storeL c a n v) ∧ w.grownBy w' (some bm) := by
  unfold storeL
  cases hs : sizeB n
  · exact (store_size b a n v w hs).mono fun e w' ⟨he, hw⟩ => ⟨he, hw ▸ hm, hw ▸ World.grownBy.refl _ _⟩
  · exact store_any w b bm c a n v hs v0 v1 hm

theorem len_nil (w : World) : Calls Try.prog 15 #[.pointer none] w fun e w' => e = .returned (.int .i64 0) ∧ w = w' := by
  go_enter Try.func15, Try.ntmps15
  go_wp2
  go_ret
  exact ⟨rfl, rfl⟩

theorem len_any (w : World) (b bm : Nat) (c : Cells) (hm : MemAt w b bm c) : Calls Try.prog 15 #[.pointer (some ⟨b, 0, none⟩)] w fun e w' => e = .returned (.int .i64 c.length) ∧ w = w' := by
  obtain ⟨hc, D, ho, hd⟩ := hm
  have hs := hd.size_
  have HS := Lib.hid hs
  clear hs
  go_enter Try.func15, Try.ntmps15
  go_wp2_with (at_len; refine wpList_len_own _ rfl _ 46 rfl 53 5 Try.underlying46 elemR bm c.length D rfl ho ?_)
  go_ret
  exact ⟨by rw [HS.out]; rfl, rfl⟩

end Go.Proofs.Ytcccfckefjjoiaa
