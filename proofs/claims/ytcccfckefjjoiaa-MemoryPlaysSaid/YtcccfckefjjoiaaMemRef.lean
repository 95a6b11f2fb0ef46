/- Slices of cells as they are read; the reference's 'Get'. -/
import Derived.Test.YtcccfckefjjoiaaMemMap
import Derived.BigQuiet
import Derived.Deep.QuietTactic
import Derived.Lib.Hide
namespace Go.Proofs.Ytcccfckefjjoiaa
open Go.RowKit Go.Mem

/-- A slice's address, below block B, where so many cells lie. -/
def ClAt (w : World) (B : Nat) (A : Option Addr) (c : Cells) : Prop :=
  c ≠ [] → ∃ g off, A = some ⟨g, off, none⟩ ∧ g < B ∧ ∀ (i : Nat) (p : Int × Int), c[i]? = some p → w.cell? ⟨g, off + i * 2, none⟩ = some (.int .u32 p.1) ∧ w.cell? ⟨g, off + i * 2 + 1, none⟩ = some (.int .u8 p.2)

theorem ClAt.nil (w : World) (B : Nat) (A : Option Addr) : ClAt w B A [] := fun h => absurd rfl h
theorem ClAt.keep {w w' : World} {B : Nat} {A : Option Addr} {c : Cells} (h : ClAt w B A c) (hk : ∀ p : Addr, p.block < B → ∀ v, w.cell? p = some v → w'.cell? p = some v) : ClAt w' B A c := by
  intro hn
  obtain ⟨g, off, e, hb, hc⟩ := h hn
  exact ⟨g, off, e, hb, fun i p hp => ⟨hk _ hb _ (hc i p hp).1, hk _ hb _ (hc i p hp).2⟩⟩
theorem ClAt.below {w w' : World} {B B' : Nat} {A : Option Addr} {c : Cells} (h : ClAt w B A c) (hb : Below B' w w') (hB : B ≤ B') : ClAt w' B A c := h.keep fun _ hp _ e => (hb.cell (by omega)).trans e
theorem ClAt.more {w : World} {B B' : Nat} {A : Option Addr} {c : Cells} (h : ClAt w B A c) (hB : B ≤ B') : ClAt w B' A c := by
  intro hn
  obtain ⟨g, off, e, hb, hc⟩ := h hn
  exact ⟨g, off, e, by omega, hc⟩
/-- Behind a store into a map's block. -/
theorem ClAt.map {w w' : World} {B bm : Nat} {A : Option Addr} {c : Cells} (h : ClAt w B A c) (hg : w.grownBy w' (some bm)) (hm : ∃ es clock, w.heap[bm]? = some (.map es clock)) : ClAt w' B A c := h.keep fun p _ v e => by
  obtain ⟨es, clock, hm⟩ := hm
  have hne : p.block ≠ bm := by
    rintro rfl
    simp [World.cell?, hm] at e
  rw [World.cell?_of_block (hg.block p.block (World.block_lt_of_cell? w _ e) (by simpa using hne))]
  exact e
theorem ClAt.at_ {w : World} {B : Nat} {A : Option Addr} {c : Cells} (h : ClAt w B A c) {k : Nat} (hk : k < c.length) :
    ∃ g off, A = some ⟨g, off, none⟩ ∧ g < B ∧ w.cell? ⟨g, off + k * 2, none⟩ = some (.int .u32 (c[k]).1) ∧ w.cell? ⟨g, off + k * 2 + 1, none⟩ = some (.int .u8 (c[k]).2) := by
  obtain ⟨g, off, e, hb, hc⟩ := h (by intro e; subst e; simp at hk)
  have := hc k c[k] (List.getElem?_eq_getElem hk)
  exact ⟨g, off, e, hb, this.1, this.2⟩

set_option maxHeartbeats 1000000 in
theorem rGet_any (c : Cells) (A : Option Addr) (cap : Nat) (x : Int) (w : World) (h : ClAt w w.heap.size A c) (hl : c.length ≤ maxLen) :
    Calls Try.prog 23 #[.slice A c.length cap, .int .u32 x] w fun e w' => e = .returned (.int .u8 (getL c x)) ∧ w = w' := by
  unfold maxLen at hl
  go_enter Try.func23, Try.ntmps23
  go_wp2
  go_loop [5] (fun i => ∃ k : Nat, k ≤ c.length ∧ i = .int .i64 k ∧ getL (c.drop k) x = getL c x) (fun i => c.length - (intOf i).toNat)
  case atStart => exact ⟨0, Nat.zero_le _, rfl, rfl⟩
  case round =>
    obtain ⟨k, hk, rfl, hg⟩ := hrel
    have HG := Lib.hid hg
    clear hg
    by_cases hlt : k < c.length
    · obtain ⟨g, off, rfl, hb, h1, h2⟩ := h.at_ hlt
      have hd := List.drop_eq_getElem_cons hlt
      have HD := Lib.hid hd
      clear hd
      generalize hp : c[k] = p at *
      obtain ⟨pa, pb⟩ := p
      simp only at h1 h2
      by_cases he : pa = x
      · subst he
        have hg : getL c pa = pb := by rw [← HG.out, HD.out, getL, if_pos rfl]
        have HG := Lib.hid hg
        clear hg hp
        go_wp2
        go_ret
        exact ⟨by rw [HG.out]; rfl, rfl⟩
      · have hg : getL (c.drop (k + 1)) x = getL c x := by rw [← HG.out, HD.out, getL, if_neg he]
        have HG2 := Lib.hid hg
        clear hg hp
        go_wp2
        go_round
        case rel => exact ⟨k + 1, by omega, by go_num, HG2.out⟩
        case measure => simp [intOf]; omega
    · have e : k = c.length := by omega
      subst e
      have hg : getL c x = 0 := by rw [← HG.out, List.drop_length]; rfl
      rw [hg]
      go_wp2
      go_ret
      exact ⟨rfl, rfl⟩

theorem rsize_any (n : Int) (w : World) : Calls Try.prog 22 #[.int .i64 n] w fun e w' => e = .returned (.bool (sizeB n)) ∧ w = w' := by
  unfold sizeB
  by_cases h1 : n = 1
  · subst h1
    go_enter Try.func22, Try.ntmps22
    go_wp2
    go_ret
    exact ⟨rfl, rfl⟩
  · by_cases h2 : n = 2
    · subst h2
      go_enter Try.func22, Try.ntmps22
      go_wp2
      go_ret
      exact ⟨rfl, rfl⟩
    · by_cases h4 : n = 4
      · subst h4
        go_enter Try.func22, Try.ntmps22
        go_wp2
        go_ret
        exact ⟨rfl, rfl⟩
      · have e1 : (n == 1) = false := by simpa using h1
        have e2 : (n == 2) = false := by simpa using h2
        have e4 : (n == 4) = false := by simpa using h4
        rw [e1, e2, e4]
        go_enter Try.func22, Try.ntmps22
        go_wp2
        go_ret
        exact ⟨rfl, rfl⟩

theorem wrap_u32' (x : Int) : IntKind.u32.wrap x = w32 x := rfl

/-- One byte more of a number, from the front. -/
theorem or_front (V g : Int) (h0 : 0 ≤ V) (g0 : 0 ≤ g) (g1 : g < 256) (hw : IntKind.u32.wrap (V * 256) = V * 256) : bits .or .u32 (V * 256) g = V * 256 + g := by
  have hb : V * 256 < 4294967296 ∧ 0 ≤ V * 256 := by
    rw [wrap_u32'] at hw
    unfold w32 at hw
    omega
  rw [u32_or (V * 256) g hb.2 hb.1 g0 (by omega)]
  obtain ⟨v, rfl⟩ := Int.eq_ofNat_of_zero_le h0
  obtain ⟨y, rfl⟩ := Int.eq_ofNat_of_zero_le g0
  have e : ((v : Int) * 256).toNat = 2 ^ 8 * v := by omega
  rw [e, Int.toNat_natCast, ← Nat.two_pow_add_eq_or_of_lt (by omega : y < 2 ^ 8)]
  omega

set_option maxHeartbeats 1000000 in
theorem rLoad_any (c : Cells) (A : Option Addr) (cap : Nat) (a n : Int) (w : World) (h : ClAt w w.heap.size A c) (hl : c.length ≤ maxLen) (hr : InR c) (hs : sizeB n = true) :
    Calls Try.prog 12 #[.slice A c.length cap, .int .u32 a, .int .i64 n] w fun e w' => e = .returned (.int .u32 (loadN c a n.toNat)) ∧ w = w' := by
  have hn : n = 1 ∨ n = 2 ∨ n = 4 := by unfold sizeB at hs; simp at hs; omega
  have HN := Lib.hid hn
  have n0 : 0 ≤ n := by omega
  have n4 : n ≤ 4 := by omega
  have hget := fun x => rGet_any c A cap x w h hl
  clear hn
  go_enter Try.func12, Try.ntmps12
  go_wp2_with (go_at_call 22; refine (rsize_any n _).mono ?_; rintro e w' ⟨rfl, rfl⟩)
  go_loop [7, 8] (fun v k => ∃ (i : Nat) (V : Int), (i : Int) ≤ n ∧ k = .int .i64 (n - 1 - i) ∧ v = .int .u32 V ∧ Hid (V = loadN c (a + (n - i)) i)) (fun _ k => (intOf k + 1).toNat)
  case atStart => exact ⟨0, 0, by omega, by simp, rfl, Lib.hid rfl⟩
  case round =>
    obtain ⟨i, V, hi, rfl, rfl, HV⟩ := hrel
    have hb := loadN_bound c hr i (a + (n - i))
    rw [← HV.out] at hb
    by_cases hlt2 : (i : Int) < n
    · have hge : 0 ≤ n - 1 - (i : Int) := by omega
      have hstep : bits .or .u32 (V * 256 % 4294967296) (getL c ((a + (n - 1 - (i : Int))) % 4294967296) % 4294967296) = loadN c (a + (n - ((i + 1 : Nat) : Int))) (i + 1) := by
        have h4 : i = 0 ∨ i = 1 ∨ i = 2 ∨ i = 3 := by omega
        have hg := hr.get ((a + (n - 1 - (i : Int))) % 4294967296)
        have hV : V * 256 < 4294967296 := by rcases h4 with rfl | rfl | rfl | rfl <;> simp at hb <;> omega
        have e1 : V * 256 % 4294967296 = V * 256 := by omega
        rw [Int.emod_eq_of_lt hg.1 (by omega), e1, or_front V _ hb.1 hg.1 hg.2 (by rw [wrap_u32']; exact e1), loadN]
        have e2 : a + (n - ((i + 1 : Nat) : Int)) = a + (n - 1 - (i : Int)) := by push_cast; omega
        have e3 : a + (n - ((i + 1 : Nat) : Int)) + 1 = a + (n - (i : Int)) := by push_cast; omega
        rw [e3, ← HV.out, e2]
        unfold w32
        omega
      have HS := Lib.hid hstep
      clear hstep
      go_wp2_with fail
      ((with_reducible refine (hget _).mono ?_); rintro e w' ⟨rfl, rfl⟩)
      clear hget
      go_wp2
      go_round
      case rel => exact ⟨i + 1, _, by omega, by congr 1; push_cast; omega, by rw [HS.out], Lib.hid rfl⟩
      case measure => simp [intOf]; omega
    · have e : i = n.toNat := by omega
      subst e
      have hle : ¬ 0 ≤ n - 1 - ((n.toNat : Nat) : Int) := by omega
      have e2 : a + (n - ((n.toNat : Nat) : Int)) = a := by omega
      rw [e2] at HV
      go_wp2
      go_ret
      exact ⟨by rw [HV.out]; rfl, rfl⟩

end Go.Proofs.Ytcccfckefjjoiaa
