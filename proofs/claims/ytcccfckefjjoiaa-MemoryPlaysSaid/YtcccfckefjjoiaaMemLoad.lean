/- Memory's 'Load', 'Store', 'Len', 'New'. -/
import Derived.Test.YtcccfckefjjoiaaMemSet
import Derived.Lib.Hide
namespace Go.Proofs.Ytcccfckefjjoiaa
open Go.RowKit Go.Mem Go.Maps

theorem size_any (n : Int) (w : World) : Calls Try.prog 20 #[.int .i64 n] w fun e w' => e = .returned (.bool (sizeB n)) ∧ w = w' := by
  unfold sizeB
  by_cases h1 : n = 1
  · subst h1
    go_enter Try.func20, Try.ntmps20
    go_wp2
    go_ret
    exact ⟨rfl, rfl⟩
  · by_cases h2 : n = 2
    · subst h2
      go_enter Try.func20, Try.ntmps20
      go_wp2
      go_ret
      exact ⟨rfl, rfl⟩
    · by_cases h4 : n = 4
      · subst h4
        go_enter Try.func20, Try.ntmps20
        go_wp2
        go_ret
        exact ⟨rfl, rfl⟩
      · have e1 : (n == 1) = false := by simpa using h1
        have e2 : (n == 2) = false := by simpa using h2
        have e4 : (n == 4) = false := by simpa using h4
        rw [e1, e2, e4]
        go_enter Try.func20, Try.ntmps20
        go_wp2
        go_ret
        exact ⟨rfl, rfl⟩

/-- No memory. -/
theorem load_nil (a n : Int) (w : World) : Calls Try.prog 11 #[.pointer none, .int .u32 a, .int .i64 n] w fun e w' => e = .returned (.int .u32 0) ∧ w = w' := by
  go_enter Try.func11, Try.ntmps11
  go_wp2
  go_ret
  exact ⟨rfl, rfl⟩

theorem load_size (b : Nat) (a n : Int) (w : World) (hs : sizeB n = false) : Calls Try.prog 11 #[.pointer (some ⟨b, 0, none⟩), .int .u32 a, .int .i64 n] w fun e w' => e = .returned (.int .u32 0) ∧ w = w' := by
  go_enter Try.func11, Try.ntmps11
  go_wp2_with (go_at_call 20; refine (size_any n _).mono ?_; rintro e w' ⟨rfl, rfl⟩)
  go_ret
  exact ⟨rfl, rfl⟩

theorem wrap_u32 (x : Int) : IntKind.u32.wrap x = w32 x := rfl

/-- One byte more of a number. -/
theorem or_step (V g : Int) (i : Nat) (hi : i < 4) (h0 : 0 ≤ V) (h1 : V < 256 ^ i) (g0 : 0 ≤ g) (g1 : g < 256) :
    bits .or .u32 V (IntKind.u32.wrap (IntKind.u32.wrap g * 2 ^ min (IntKind.u32.wrap (8 * i)).toNat 32)) = V + 256 ^ i * g := by
  have key : ∀ (k : Nat) (m : Int), m = 2 ^ k → 0 ≤ V → V < m → m * 256 ≤ 4294967296 → bits .or .u32 V (IntKind.u32.wrap (IntKind.u32.wrap g * m)) = V + m * g := by
    intro k m hm v0 v1 m2
    have hgw : IntKind.u32.wrap g = g := by rw [wrap_u32]; unfold w32; omega
    have hb : g * m < 4294967296 := by
      have := Int.mul_le_mul_of_nonneg_right (show g ≤ 255 by omega) (show 0 ≤ m by omega)
      omega
    have hb0 : 0 ≤ g * m := Int.mul_nonneg g0 (by omega)
    have hgm : IntKind.u32.wrap (g * m) = g * m := by rw [wrap_u32]; unfold w32; omega
    rw [hgw, hgm, u32_or V (g * m) v0 (by omega) hb0 hb]
    obtain ⟨v, rfl⟩ := Int.eq_ofNat_of_zero_le v0
    obtain ⟨y, rfl⟩ := Int.eq_ofNat_of_zero_le g0
    subst hm
    have hv : v < 2 ^ k := by
      have : (v : Int) < ((2 ^ k : Nat) : Int) := by push_cast; exact v1
      omega
    have e : ((y : Int) * 2 ^ k).toNat = 2 ^ k * y := by
      have : ((y : Int) * 2 ^ k) = ((2 ^ k * y : Nat) : Int) := by push_cast; rw [Int.mul_comm]
      rw [this, Int.toNat_natCast]
    rw [e, Int.toNat_natCast, Nat.or_comm, ← Nat.two_pow_add_eq_or_of_lt hv]
    push_cast
    omega
  have h4 : i = 0 ∨ i = 1 ∨ i = 2 ∨ i = 3 := by omega
  rcases h4 with rfl | rfl | rfl | rfl
  · exact key 0 1 (by rfl) h0 h1 (by omega)
  · exact key 8 256 (by rfl) h0 (by simpa using h1) (by omega)
  · exact key 16 65536 (by rfl) h0 (by simpa using h1) (by omega)
  · exact key 24 16777216 (by rfl) h0 (by simpa using h1) (by omega)

theorem MemAt.look {w : World} {b bm : Nat} {c : Cells} (h : MemAt w b bm c) {x : Int} (h0 : 0 ≤ x) (h1 : x < 4294967296) :
    (Instr.lookup 46 (.map (some bm)) (av x) false).run Try.prog w = .ok (.int .u8 (getL c x)) w := by
  obtain ⟨hc, D, ho, hd⟩ := h
  obtain ⟨y, hrun, hat, _⟩ := World.ownsMap.lookup_int ho placeLaw Try.underlying46 Try.underlying5 (zeroU8 w) (keyOf_at h0 h1)
  rw [hd.val x h0 h1] at hat
  injection hat with hat
  injection hat with _ hat
  rw [hrun, hat]

set_option maxHeartbeats 1000000 in
theorem load_any (w : World) (b bm : Nat) (c : Cells) (a n : Int) (hs : sizeB n = true) (hm : MemAt w b bm c) :
    Calls Try.prog 11 #[.pointer (some ⟨b, 0, none⟩), .int .u32 a, .int .i64 n] w fun e w' => e = .returned (.int .u32 (loadN c a n.toNat)) ∧ Below w.heap.size w w' := by
  have hlt := hm.lt
  have hn : n = 1 ∨ n = 2 ∨ n = 4 := by unfold sizeB at hs; simp at hs; omega
  have HN := Lib.hid hn
  have n0 : 0 ≤ n := by omega
  have n4 : n ≤ 4 := by omega
  clear hn
  go_enter Try.func11, Try.ntmps11
  go_wp2_with (go_at_call 20; refine (size_any n _).mono ?_; rintro e w' ⟨rfl, rfl⟩)
  go_loopw [7, 19] (fun v k wr => ∃ (i : Nat) (V : Int), (i : Int) ≤ n ∧ k = .int .u32 i ∧ v = .int .u32 V ∧ Hid (V + 256 ^ i * loadN c (a + i) (n.toNat - i) = loadN c a n.toNat ∧ 0 ≤ V ∧ V < 256 ^ i) ∧ MemAt wr b bm c ∧ Below w.heap.size w wr) (fun _ k _ => 4 - (intOf k).toNat)
  case atStart => exact ⟨0, 0, by omega, rfl, rfl, ⟨by simp, by omega, by simp⟩, hm, Below.refl _ _⟩
  case round =>
    obtain ⟨i, V, hi, rfl, rfl, HV, hmr, hbr⟩ := hrel
    by_cases hlt2 : (i : Int) < n
    · obtain ⟨hc, _⟩ := id hmr
      have hr0 : 0 ≤ w32 (a + i) := by unfold w32; omega
      have hr1 : w32 (a + i) < 4294967296 := by unfold w32; omega
      have hl := fun o => (hmr.alloc o).drew.look hr0 hr1
      have hbl := World.block_lt_of_cell? wr _ hc
      have he : IntKind.u32.wrap (a + i) = w32 (a + i) := wrap_u32 _
      have hof := fun W => of_any (w32 (a + i)) W hr0 hr1
      generalize hx : w32 (a + i) = x at *
      have hg := hmr.is.2.get x
      generalize hy : getL c x = g at *
      have HX := Lib.hid hx
      have HY := Lib.hid hy
      clear hx hy
      obtain ⟨HV, V0, V1⟩ := HV.out
      have HV := Lib.hid HV
      have hv := or_step V g i (by omega) V0 V1 hg.1 hg.2
      have hnew : Hid (V + 256 ^ i * g + 256 ^ (i + 1) * loadN c (a + ((i + 1 : Nat) : Int)) (n.toNat - (i + 1)) = loadN c a n.toNat ∧ 0 ≤ V + 256 ^ i * g ∧ V + 256 ^ i * g < 256 ^ (i + 1)) := by
        have e1 := HV.out
        obtain ⟨m, hm1⟩ : ∃ m, n.toNat - i = m + 1 := ⟨n.toNat - i - 1, by omega⟩
        have hm2 : n.toNat - (i + 1) = m := by omega
        rw [hm1, loadN, HX.out, HY.out] at e1
        rw [hm2]
        have e2 : a + (i : Int) + 1 = a + ((i + 1 : Nat) : Int) := by push_cast; omega
        rw [e2] at e1
        have hp : (256 : Int) ^ (i + 1) = 256 ^ i * 256 := Int.pow_succ _ _
        have p0 : (0 : Int) < 256 ^ i := Int.pow_pos (by omega)
        refine ⟨?_, ?_, ?_⟩
        · rw [hp, ← e1, Int.mul_add, Int.mul_assoc, Int.add_assoc]
        · have := Int.mul_nonneg (Int.le_of_lt p0) hg.1
          omega
        · rw [hp]
          have := Int.mul_le_mul_of_nonneg_left (show g ≤ 255 by omega) (Int.le_of_lt p0)
          omega
      clear HV HX HY V1
      have hi1 : ((i + 1 : Nat) : Int) ≤ n := by omega
      have h4 : i = 0 ∨ i = 1 ∨ i = 2 ∨ i = 3 := by omega
      rcases h4 with rfl | rfl | rfl | rfl
      all_goals
        simp only [Int.cast_ofNat_Int, Int.add_zero, Int.mul_zero, Int.mul_one, Int.reduceMul] at he hv hlt2
        generalize hV2 : V + 256 ^ _ * g = V2 at hv hnew
        clear hV2
        go_wp2_with fail
        go_region_held3 (fun w' => w'.cell? ⟨b, 0, none⟩ = some (.map (some bm)))
          (first | go_keep)
          (first | (go_at_call 21; refine (hof _).mono ?_; rintro e w' ⟨rfl, cs, rfl⟩))
        go_wp2
        go_roundw
        case rel => exact ⟨_, V2, hi1, rfl, rfl, hnew, (hmr.alloc _).drew, hbr.trans (((Below.refl _ _).alloc (Nat.le_refl _) _).drew.mono hbr.size)⟩
        case measure => simp [intOf]
    · have e : i = n.toNat := by omega
      subst e
      have e := HV.out.1
      rw [Nat.sub_self, loadN, Int.mul_zero, Int.add_zero] at e
      subst e
      go_wp2
      go_ret
      exact ⟨rfl, hbr⟩

end Go.Proofs.Ytcccfckefjjoiaa
