/- For the seat: the reference's count of ones, walked. -/
import Derived.Test.YtaiecnepchndkaaDoorBase
import Derived.WalkKit
import Derived.LoopTactic
import Derived.Outline
namespace Go.Proofs.YtaiecnepchndkaaDoor
open Go.Sx Go.RowKit Go.Sx.Ones

theorem popN_le : ∀ k n, popN k n ≤ k
  | 0, _ => Nat.le_refl _
  | k + 1, n => by have := popN_le k (n / 2); simp only [popN]; omega

theorem pop_half (m : Nat) (h : m < 9223372036854775808) : popN 64 m = m % 2 + popN 64 (m / 2) := by
  have e1 : popN 64 m = m % 2 + popN 63 (m / 2) := rfl
  have e2 : popN (63 + 1) (m / 2) = popN 63 (m / 2) + popN 1 (m / 2 / 2 ^ 63) := popN_add 63 1 (m / 2)
  have e3 : m / 2 / 2 ^ 63 = 0 := Nat.div_eq_of_lt (by omega)
  rw [e3, popN_zero] at e2
  rw [e1, show 64 = 63 + 1 from rfl, e2, Nat.add_zero]

def pop (n : Nat) : Nat := popN 64 n
theorem pop_zero : pop 0 = 0 := popN_zero 64
theorem pop_le (n : Nat) : pop n ≤ 64 := popN_le 64 n
theorem pop_step (m : Nat) (h : m < 9223372036854775808) : pop m = m % 2 + pop (m / 2) := pop_half m h

set_option maxHeartbeats 1000000 in
theorem count_any (n : Nat) (w : World) (hn : n < 9223372036854775808) : Calls Tryd.prog 107 #[.int .i64 n] w fun e w' => e = .returned (.int .i64 (pop n)) ∧ w' = w := by
  go_enter Tryd.func107, Tryd.ntmps107
  go_wp2
  go_loop [0, 3] (fun l c => ∃ m k : Nat, m < 9223372036854775808 ∧ l = .int .i64 m ∧ c = .int .i64 k ∧ k + pop m = pop n) (fun l _ => (intOf l).toNat)
  case atStart => exact ⟨n, 0, hn, rfl, rfl, by omega⟩
  case round =>
    obtain ⟨m, k, hm, rfl, rfl, hk⟩ := hrel
    have hp := pop_step m hm
    have hle := pop_le n
    have HK : Hid (k + pop m = pop n) := hk
    have HP : Hid (pop m = m % 2 + pop (m / 2)) := hp
    have hk64 : k ≤ 64 := by omega
    clear hk hp
    by_cases h0 : 0 < m
    · go_wp2
      go_round
      case rel => exact ⟨m / 2, k + m % 2, by omega, by go_num, by go_num, by have := HK.out; have := HP.out; omega⟩
      case measure => simp [intOf]; omega
    · have hz : m = 0 := by omega
      subst hz
      go_wp2
      go_ret
      have := HK.out
      rw [pop_zero] at this
      exact ⟨by rw [← this]; rfl, rfl⟩

end Go.Proofs.YtaiecnepchndkaaDoor
