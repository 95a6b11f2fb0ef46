/- The bits of masks. -/
import Derived.Test.YtaiecnepchndkaaDoorSxPx
import Derived.Test.YtaiecnepchndkaaDoorSxBits
namespace Go.Sx

theorem bitOf_eq (m i : Nat) : bitOf m i = m.testBit i := by
  unfold bitOf Nat.testBit
  show Nat.beq ((m >>> i) &&& 1) 1 = _
  have h : (m >>> i) &&& 1 = (m >>> i) % 2 := Nat.and_one_is_mod _
  rw [Nat.and_comm 1, h]
  have : m >>> i % 2 = 0 ∨ m >>> i % 2 = 1 := by omega
  rcases this with h | h <;> rw [h] <;> rfl

end Go.Sx
