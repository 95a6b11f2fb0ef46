/- There and back: there is always an answer, and it is read back. -/
import Derived.Test.YtaiecnepchndkaaDoorApwP0
import Derived.Test.YtaiecnepchndkaaDoorApwP1
import Derived.Test.YtaiecnepchndkaaDoorApwP2
import Derived.Test.YtaiecnepchndkaaDoorApwP3
namespace Go.Proofs.YtaiecnepchndkaaDoor.apw
open Go.Sx

theorem n1 : (apt.casesV 1).length = 4 := by kernel_rfl
theorem g1 : ∀ j : Nat, j < (apt.casesV 1).length → apt.vat 1 j = true := by
  intro j hj
  rw [n1] at hj
  by_cases h : j < 3
  · exact List.all_eq_true.1 w1x0 j (List.mem_range'_1.2 ⟨by omega, by omega⟩)
  by_cases h : j < 4
  · exact List.all_eq_true.1 w1x3 j (List.mem_range'_1.2 ⟨by omega, by omega⟩)
  omega
theorem n2 : (apt.casesV 2).length = 4 := by kernel_rfl
theorem g2 : ∀ j : Nat, j < (apt.casesV 2).length → apt.vat 2 j = true := by
  intro j hj
  rw [n2] at hj
  by_cases h : j < 3
  · exact List.all_eq_true.1 w2x0 j (List.mem_range'_1.2 ⟨by omega, by omega⟩)
  by_cases h : j < 4
  · exact List.all_eq_true.1 w2x3 j (List.mem_range'_1.2 ⟨by omega, by omega⟩)
  omega
theorem n3 : (apt.casesV 3).length = 4 := by kernel_rfl
theorem g3 : ∀ j : Nat, j < (apt.casesV 3).length → apt.vat 3 j = true := by
  intro j hj
  rw [n3] at hj
  by_cases h : j < 3
  · exact List.all_eq_true.1 w3x0 j (List.mem_range'_1.2 ⟨by omega, by omega⟩)
  by_cases h : j < 4
  · exact List.all_eq_true.1 w3x3 j (List.mem_range'_1.2 ⟨by omega, by omega⟩)
  omega
theorem n4 : (apt.casesV 4).length = 4 := by kernel_rfl
theorem g4 : ∀ j : Nat, j < (apt.casesV 4).length → apt.vat 4 j = true := by
  intro j hj
  rw [n4] at hj
  by_cases h : j < 3
  · exact List.all_eq_true.1 w4x0 j (List.mem_range'_1.2 ⟨by omega, by omega⟩)
  by_cases h : j < 4
  · exact List.all_eq_true.1 w4x3 j (List.mem_range'_1.2 ⟨by omega, by omega⟩)
  omega
theorem n5 : (apt.casesV 5).length = 7 := by kernel_rfl
theorem g5 : ∀ j : Nat, j < (apt.casesV 5).length → apt.vat 5 j = true := by
  intro j hj
  rw [n5] at hj
  by_cases h : j < 5
  · exact List.all_eq_true.1 w5x0 j (List.mem_range'_1.2 ⟨by omega, by omega⟩)
  by_cases h : j < 6
  · exact List.all_eq_true.1 w5x5 j (List.mem_range'_1.2 ⟨by omega, by omega⟩)
  by_cases h : j < 7
  · exact List.all_eq_true.1 w5x6 j (List.mem_range'_1.2 ⟨by omega, by omega⟩)
  omega
theorem n6 : (apt.casesV 6).length = 4 := by kernel_rfl
theorem g6 : ∀ j : Nat, j < (apt.casesV 6).length → apt.vat 6 j = true := by
  intro j hj
  rw [n6] at hj
  by_cases h : j < 3
  · exact List.all_eq_true.1 w6x0 j (List.mem_range'_1.2 ⟨by omega, by omega⟩)
  by_cases h : j < 4
  · exact List.all_eq_true.1 w6x3 j (List.mem_range'_1.2 ⟨by omega, by omega⟩)
  omega
theorem n7 : (apt.casesV 7).length = 7 := by kernel_rfl
theorem g7 : ∀ j : Nat, j < (apt.casesV 7).length → apt.vat 7 j = true := by
  intro j hj
  rw [n7] at hj
  by_cases h : j < 5
  · exact List.all_eq_true.1 w7x0 j (List.mem_range'_1.2 ⟨by omega, by omega⟩)
  by_cases h : j < 6
  · exact List.all_eq_true.1 w7x5 j (List.mem_range'_1.2 ⟨by omega, by omega⟩)
  by_cases h : j < 7
  · exact List.all_eq_true.1 w7x6 j (List.mem_range'_1.2 ⟨by omega, by omega⟩)
  omega
theorem n8 : (apt.casesV 8).length = 4 := by kernel_rfl
theorem g8 : ∀ j : Nat, j < (apt.casesV 8).length → apt.vat 8 j = true := by
  intro j hj
  rw [n8] at hj
  by_cases h : j < 3
  · exact List.all_eq_true.1 w8x0 j (List.mem_range'_1.2 ⟨by omega, by omega⟩)
  by_cases h : j < 4
  · exact List.all_eq_true.1 w8x3 j (List.mem_range'_1.2 ⟨by omega, by omega⟩)
  omega
theorem n9 : (apt.casesV 9).length = 4 := by kernel_rfl
theorem g9 : ∀ j : Nat, j < (apt.casesV 9).length → apt.vat 9 j = true := by
  intro j hj
  rw [n9] at hj
  by_cases h : j < 3
  · exact List.all_eq_true.1 w9x0 j (List.mem_range'_1.2 ⟨by omega, by omega⟩)
  by_cases h : j < 4
  · exact List.all_eq_true.1 w9x3 j (List.mem_range'_1.2 ⟨by omega, by omega⟩)
  omega
theorem n10 : (apt.casesV 10).length = 4 := by kernel_rfl
theorem g10 : ∀ j : Nat, j < (apt.casesV 10).length → apt.vat 10 j = true := by
  intro j hj
  rw [n10] at hj
  by_cases h : j < 4
  · exact List.all_eq_true.1 w10x0 j (List.mem_range'_1.2 ⟨by omega, by omega⟩)
  omega
theorem n11 : (apt.casesV 11).length = 4 := by kernel_rfl
theorem g11 : ∀ j : Nat, j < (apt.casesV 11).length → apt.vat 11 j = true := by
  intro j hj
  rw [n11] at hj
  by_cases h : j < 4
  · exact List.all_eq_true.1 w11x0 j (List.mem_range'_1.2 ⟨by omega, by omega⟩)
  omega
theorem n12 : (apt.casesV 12).length = 4 := by kernel_rfl
theorem g12 : ∀ j : Nat, j < (apt.casesV 12).length → apt.vat 12 j = true := by
  intro j hj
  rw [n12] at hj
  by_cases h : j < 4
  · exact List.all_eq_true.1 w12x0 j (List.mem_range'_1.2 ⟨by omega, by omega⟩)
  omega
theorem n13 : (apt.casesV 13).length = 4 := by kernel_rfl
theorem g13 : ∀ j : Nat, j < (apt.casesV 13).length → apt.vat 13 j = true := by
  intro j hj
  rw [n13] at hj
  by_cases h : j < 4
  · exact List.all_eq_true.1 w13x0 j (List.mem_range'_1.2 ⟨by omega, by omega⟩)
  omega
theorem n14 : (apt.casesV 14).length = 4 := by kernel_rfl
theorem g14 : ∀ j : Nat, j < (apt.casesV 14).length → apt.vat 14 j = true := by
  intro j hj
  rw [n14] at hj
  by_cases h : j < 4
  · exact List.all_eq_true.1 w14x0 j (List.mem_range'_1.2 ⟨by omega, by omega⟩)
  omega
theorem n15 : (apt.casesV 15).length = 4 := by kernel_rfl
theorem g15 : ∀ j : Nat, j < (apt.casesV 15).length → apt.vat 15 j = true := by
  intro j hj
  rw [n15] at hj
  by_cases h : j < 4
  · exact List.all_eq_true.1 w15x0 j (List.mem_range'_1.2 ⟨by omega, by omega⟩)
  omega
theorem n16 : (apt.casesV 16).length = 3 := by kernel_rfl
theorem g16 : ∀ j : Nat, j < (apt.casesV 16).length → apt.vat 16 j = true := by
  intro j hj
  rw [n16] at hj
  by_cases h : j < 2
  · exact List.all_eq_true.1 w16x0 j (List.mem_range'_1.2 ⟨by omega, by omega⟩)
  by_cases h : j < 3
  · exact List.all_eq_true.1 w16x2 j (List.mem_range'_1.2 ⟨by omega, by omega⟩)
  omega
theorem n17 : (apt.casesV 17).length = 4 := by kernel_rfl
theorem g17 : ∀ j : Nat, j < (apt.casesV 17).length → apt.vat 17 j = true := by
  intro j hj
  rw [n17] at hj
  by_cases h : j < 2
  · exact List.all_eq_true.1 w17x0 j (List.mem_range'_1.2 ⟨by omega, by omega⟩)
  by_cases h : j < 3
  · exact List.all_eq_true.1 w17x2 j (List.mem_range'_1.2 ⟨by omega, by omega⟩)
  by_cases h : j < 4
  · exact List.all_eq_true.1 w17x3 j (List.mem_range'_1.2 ⟨by omega, by omega⟩)
  omega
theorem n18 : (apt.casesV 18).length = 4 := by kernel_rfl
theorem g18 : ∀ j : Nat, j < (apt.casesV 18).length → apt.vat 18 j = true := by
  intro j hj
  rw [n18] at hj
  by_cases h : j < 2
  · exact List.all_eq_true.1 w18x0 j (List.mem_range'_1.2 ⟨by omega, by omega⟩)
  by_cases h : j < 3
  · exact List.all_eq_true.1 w18x2 j (List.mem_range'_1.2 ⟨by omega, by omega⟩)
  by_cases h : j < 4
  · exact List.all_eq_true.1 w18x3 j (List.mem_range'_1.2 ⟨by omega, by omega⟩)
  omega
theorem n19 : (apt.casesV 19).length = 3 := by kernel_rfl
theorem g19 : ∀ j : Nat, j < (apt.casesV 19).length → apt.vat 19 j = true := by
  intro j hj
  rw [n19] at hj
  by_cases h : j < 2
  · exact List.all_eq_true.1 w19x0 j (List.mem_range'_1.2 ⟨by omega, by omega⟩)
  by_cases h : j < 3
  · exact List.all_eq_true.1 w19x2 j (List.mem_range'_1.2 ⟨by omega, by omega⟩)
  omega
theorem n20 : (apt.casesV 20).length = 2 := by kernel_rfl
theorem g20 : ∀ j : Nat, j < (apt.casesV 20).length → apt.vat 20 j = true := by
  intro j hj
  rw [n20] at hj
  by_cases h : j < 2
  · exact List.all_eq_true.1 w20x0 j (List.mem_range'_1.2 ⟨by omega, by omega⟩)
  omega
theorem n21 : (apt.casesV 21).length = 2 := by kernel_rfl
theorem g21 : ∀ j : Nat, j < (apt.casesV 21).length → apt.vat 21 j = true := by
  intro j hj
  rw [n21] at hj
  by_cases h : j < 2
  · exact List.all_eq_true.1 w21x0 j (List.mem_range'_1.2 ⟨by omega, by omega⟩)
  omega
theorem n22 : (apt.casesV 22).length = 2 := by kernel_rfl
theorem g22 : ∀ j : Nat, j < (apt.casesV 22).length → apt.vat 22 j = true := by
  intro j hj
  rw [n22] at hj
  by_cases h : j < 2
  · exact List.all_eq_true.1 w22x0 j (List.mem_range'_1.2 ⟨by omega, by omega⟩)
  omega
theorem n23 : (apt.casesV 23).length = 2 := by kernel_rfl
theorem g23 : ∀ j : Nat, j < (apt.casesV 23).length → apt.vat 23 j = true := by
  intro j hj
  rw [n23] at hj
  by_cases h : j < 2
  · exact List.all_eq_true.1 w23x0 j (List.mem_range'_1.2 ⟨by omega, by omega⟩)
  omega
theorem n24 : (apt.casesV 24).length = 2 := by kernel_rfl
theorem g24 : ∀ j : Nat, j < (apt.casesV 24).length → apt.vat 24 j = true := by
  intro j hj
  rw [n24] at hj
  by_cases h : j < 2
  · exact List.all_eq_true.1 w24x0 j (List.mem_range'_1.2 ⟨by omega, by omega⟩)
  omega
theorem n25 : (apt.casesV 25).length = 3 := by kernel_rfl
theorem g25 : ∀ j : Nat, j < (apt.casesV 25).length → apt.vat 25 j = true := by
  intro j hj
  rw [n25] at hj
  by_cases h : j < 3
  · exact List.all_eq_true.1 w25x0 j (List.mem_range'_1.2 ⟨by omega, by omega⟩)
  omega
theorem n26 : (apt.casesV 26).length = 3 := by kernel_rfl
theorem g26 : ∀ j : Nat, j < (apt.casesV 26).length → apt.vat 26 j = true := by
  intro j hj
  rw [n26] at hj
  by_cases h : j < 3
  · exact List.all_eq_true.1 w26x0 j (List.mem_range'_1.2 ⟨by omega, by omega⟩)
  omega
theorem n27 : (apt.casesV 27).length = 3 := by kernel_rfl
theorem g27 : ∀ j : Nat, j < (apt.casesV 27).length → apt.vat 27 j = true := by
  intro j hj
  rw [n27] at hj
  by_cases h : j < 3
  · exact List.all_eq_true.1 w27x0 j (List.mem_range'_1.2 ⟨by omega, by omega⟩)
  omega
theorem n28 : (apt.casesV 28).length = 3 := by kernel_rfl
theorem g28 : ∀ j : Nat, j < (apt.casesV 28).length → apt.vat 28 j = true := by
  intro j hj
  rw [n28] at hj
  by_cases h : j < 3
  · exact List.all_eq_true.1 w28x0 j (List.mem_range'_1.2 ⟨by omega, by omega⟩)
  omega
theorem n29 : (apt.casesV 29).length = 3 := by kernel_rfl
theorem g29 : ∀ j : Nat, j < (apt.casesV 29).length → apt.vat 29 j = true := by
  intro j hj
  rw [n29] at hj
  by_cases h : j < 3
  · exact List.all_eq_true.1 w29x0 j (List.mem_range'_1.2 ⟨by omega, by omega⟩)
  omega
theorem n30 : (apt.casesV 30).length = 3 := by kernel_rfl
theorem g30 : ∀ j : Nat, j < (apt.casesV 30).length → apt.vat 30 j = true := by
  intro j hj
  rw [n30] at hj
  by_cases h : j < 3
  · exact List.all_eq_true.1 w30x0 j (List.mem_range'_1.2 ⟨by omega, by omega⟩)
  omega
theorem n31 : (apt.casesV 31).length = 16 := by kernel_rfl
theorem g31 : ∀ j : Nat, j < (apt.casesV 31).length → apt.vat 31 j = true := by
  intro j hj
  rw [n31] at hj
  by_cases h : j < 2
  · exact List.all_eq_true.1 w31x0 j (List.mem_range'_1.2 ⟨by omega, by omega⟩)
  by_cases h : j < 3
  · exact List.all_eq_true.1 w31x2 j (List.mem_range'_1.2 ⟨by omega, by omega⟩)
  by_cases h : j < 4
  · exact List.all_eq_true.1 w31x3 j (List.mem_range'_1.2 ⟨by omega, by omega⟩)
  by_cases h : j < 5
  · exact List.all_eq_true.1 w31x4 j (List.mem_range'_1.2 ⟨by omega, by omega⟩)
  by_cases h : j < 6
  · exact List.all_eq_true.1 w31x5 j (List.mem_range'_1.2 ⟨by omega, by omega⟩)
  by_cases h : j < 7
  · exact List.all_eq_true.1 w31x6 j (List.mem_range'_1.2 ⟨by omega, by omega⟩)
  by_cases h : j < 8
  · exact List.all_eq_true.1 w31x7 j (List.mem_range'_1.2 ⟨by omega, by omega⟩)
  by_cases h : j < 9
  · exact List.all_eq_true.1 w31x8 j (List.mem_range'_1.2 ⟨by omega, by omega⟩)
  by_cases h : j < 10
  · exact List.all_eq_true.1 w31x9 j (List.mem_range'_1.2 ⟨by omega, by omega⟩)
  by_cases h : j < 11
  · exact List.all_eq_true.1 w31x10 j (List.mem_range'_1.2 ⟨by omega, by omega⟩)
  by_cases h : j < 12
  · exact List.all_eq_true.1 w31x11 j (List.mem_range'_1.2 ⟨by omega, by omega⟩)
  by_cases h : j < 13
  · exact List.all_eq_true.1 w31x12 j (List.mem_range'_1.2 ⟨by omega, by omega⟩)
  by_cases h : j < 14
  · exact List.all_eq_true.1 w31x13 j (List.mem_range'_1.2 ⟨by omega, by omega⟩)
  by_cases h : j < 15
  · exact List.all_eq_true.1 w31x14 j (List.mem_range'_1.2 ⟨by omega, by omega⟩)
  by_cases h : j < 16
  · exact List.all_eq_true.1 w31x15 j (List.mem_range'_1.2 ⟨by omega, by omega⟩)
  omega
theorem n32 : (apt.casesV 32).length = 16 := by kernel_rfl
theorem g32 : ∀ j : Nat, j < (apt.casesV 32).length → apt.vat 32 j = true := by
  intro j hj
  rw [n32] at hj
  by_cases h : j < 2
  · exact List.all_eq_true.1 w32x0 j (List.mem_range'_1.2 ⟨by omega, by omega⟩)
  by_cases h : j < 3
  · exact List.all_eq_true.1 w32x2 j (List.mem_range'_1.2 ⟨by omega, by omega⟩)
  by_cases h : j < 4
  · exact List.all_eq_true.1 w32x3 j (List.mem_range'_1.2 ⟨by omega, by omega⟩)
  by_cases h : j < 5
  · exact List.all_eq_true.1 w32x4 j (List.mem_range'_1.2 ⟨by omega, by omega⟩)
  by_cases h : j < 6
  · exact List.all_eq_true.1 w32x5 j (List.mem_range'_1.2 ⟨by omega, by omega⟩)
  by_cases h : j < 7
  · exact List.all_eq_true.1 w32x6 j (List.mem_range'_1.2 ⟨by omega, by omega⟩)
  by_cases h : j < 8
  · exact List.all_eq_true.1 w32x7 j (List.mem_range'_1.2 ⟨by omega, by omega⟩)
  by_cases h : j < 9
  · exact List.all_eq_true.1 w32x8 j (List.mem_range'_1.2 ⟨by omega, by omega⟩)
  by_cases h : j < 10
  · exact List.all_eq_true.1 w32x9 j (List.mem_range'_1.2 ⟨by omega, by omega⟩)
  by_cases h : j < 11
  · exact List.all_eq_true.1 w32x10 j (List.mem_range'_1.2 ⟨by omega, by omega⟩)
  by_cases h : j < 12
  · exact List.all_eq_true.1 w32x11 j (List.mem_range'_1.2 ⟨by omega, by omega⟩)
  by_cases h : j < 13
  · exact List.all_eq_true.1 w32x12 j (List.mem_range'_1.2 ⟨by omega, by omega⟩)
  by_cases h : j < 14
  · exact List.all_eq_true.1 w32x13 j (List.mem_range'_1.2 ⟨by omega, by omega⟩)
  by_cases h : j < 15
  · exact List.all_eq_true.1 w32x14 j (List.mem_range'_1.2 ⟨by omega, by omega⟩)
  by_cases h : j < 16
  · exact List.all_eq_true.1 w32x15 j (List.mem_range'_1.2 ⟨by omega, by omega⟩)
  omega
theorem n33 : (apt.casesV 33).length = 2 := by kernel_rfl
theorem g33 : ∀ j : Nat, j < (apt.casesV 33).length → apt.vat 33 j = true := by
  intro j hj
  rw [n33] at hj
  by_cases h : j < 2
  · exact List.all_eq_true.1 w33x0 j (List.mem_range'_1.2 ⟨by omega, by omega⟩)
  omega
theorem n34 : (apt.casesV 34).length = 2 := by kernel_rfl
theorem g34 : ∀ j : Nat, j < (apt.casesV 34).length → apt.vat 34 j = true := by
  intro j hj
  rw [n34] at hj
  by_cases h : j < 2
  · exact List.all_eq_true.1 w34x0 j (List.mem_range'_1.2 ⟨by omega, by omega⟩)
  omega
theorem n35 : (apt.casesV 35).length = 5 := by kernel_rfl
theorem g35 : ∀ j : Nat, j < (apt.casesV 35).length → apt.vat 35 j = true := by
  intro j hj
  rw [n35] at hj
  by_cases h : j < 5
  · exact List.all_eq_true.1 w35x0 j (List.mem_range'_1.2 ⟨by omega, by omega⟩)
  omega
theorem n36 : (apt.casesV 36).length = 2 := by kernel_rfl
theorem g36 : ∀ j : Nat, j < (apt.casesV 36).length → apt.vat 36 j = true := by
  intro j hj
  rw [n36] at hj
  by_cases h : j < 2
  · exact List.all_eq_true.1 w36x0 j (List.mem_range'_1.2 ⟨by omega, by omega⟩)
  omega
theorem n37 : (apt.casesV 37).length = 2 := by kernel_rfl
theorem g37 : ∀ j : Nat, j < (apt.casesV 37).length → apt.vat 37 j = true := by
  intro j hj
  rw [n37] at hj
  by_cases h : j < 2
  · exact List.all_eq_true.1 w37x0 j (List.mem_range'_1.2 ⟨by omega, by omega⟩)
  omega
theorem n38 : (apt.casesV 38).length = 2 := by kernel_rfl
theorem g38 : ∀ j : Nat, j < (apt.casesV 38).length → apt.vat 38 j = true := by
  intro j hj
  rw [n38] at hj
  by_cases h : j < 2
  · exact List.all_eq_true.1 w38x0 j (List.mem_range'_1.2 ⟨by omega, by omega⟩)
  omega
theorem n39 : (apt.casesV 39).length = 2 := by kernel_rfl
theorem g39 : ∀ j : Nat, j < (apt.casesV 39).length → apt.vat 39 j = true := by
  intro j hj
  rw [n39] at hj
  by_cases h : j < 2
  · exact List.all_eq_true.1 w39x0 j (List.mem_range'_1.2 ⟨by omega, by omega⟩)
  omega
theorem n40 : (apt.casesV 40).length = 3 := by kernel_rfl
theorem g40 : ∀ j : Nat, j < (apt.casesV 40).length → apt.vat 40 j = true := by
  intro j hj
  rw [n40] at hj
  by_cases h : j < 3
  · exact List.all_eq_true.1 w40x0 j (List.mem_range'_1.2 ⟨by omega, by omega⟩)
  omega
theorem n41 : (apt.casesV 41).length = 3 := by kernel_rfl
theorem g41 : ∀ j : Nat, j < (apt.casesV 41).length → apt.vat 41 j = true := by
  intro j hj
  rw [n41] at hj
  by_cases h : j < 3
  · exact List.all_eq_true.1 w41x0 j (List.mem_range'_1.2 ⟨by omega, by omega⟩)
  omega
theorem n42 : (apt.casesV 42).length = 2 := by kernel_rfl
theorem g42 : ∀ j : Nat, j < (apt.casesV 42).length → apt.vat 42 j = true := by
  intro j hj
  rw [n42] at hj
  by_cases h : j < 2
  · exact List.all_eq_true.1 w42x0 j (List.mem_range'_1.2 ⟨by omega, by omega⟩)
  omega
theorem n43 : (apt.casesV 43).length = 2 := by kernel_rfl
theorem g43 : ∀ j : Nat, j < (apt.casesV 43).length → apt.vat 43 j = true := by
  intro j hj
  rw [n43] at hj
  by_cases h : j < 2
  · exact List.all_eq_true.1 w43x0 j (List.mem_range'_1.2 ⟨by omega, by omega⟩)
  omega
theorem n44 : (apt.casesV 44).length = 2 := by kernel_rfl
theorem g44 : ∀ j : Nat, j < (apt.casesV 44).length → apt.vat 44 j = true := by
  intro j hj
  rw [n44] at hj
  by_cases h : j < 2
  · exact List.all_eq_true.1 w44x0 j (List.mem_range'_1.2 ⟨by omega, by omega⟩)
  omega
theorem n45 : (apt.casesV 45).length = 2 := by kernel_rfl
theorem g45 : ∀ j : Nat, j < (apt.casesV 45).length → apt.vat 45 j = true := by
  intro j hj
  rw [n45] at hj
  by_cases h : j < 2
  · exact List.all_eq_true.1 w45x0 j (List.mem_range'_1.2 ⟨by omega, by omega⟩)
  omega
theorem cov : ∀ k : Nat, 1 ≤ k → k ≤ 45 → apt.covV k = true
  | 0, h, _ => absurd h (by omega)
  | 1, _, _ => c1
  | 2, _, _ => c2
  | 3, _, _ => c3
  | 4, _, _ => c4
  | 5, _, _ => c5
  | 6, _, _ => c6
  | 7, _, _ => c7
  | 8, _, _ => c8
  | 9, _, _ => c9
  | 10, _, _ => c10
  | 11, _, _ => c11
  | 12, _, _ => c12
  | 13, _, _ => c13
  | 14, _, _ => c14
  | 15, _, _ => c15
  | 16, _, _ => c16
  | 17, _, _ => c17
  | 18, _, _ => c18
  | 19, _, _ => c19
  | 20, _, _ => c20
  | 21, _, _ => c21
  | 22, _, _ => c22
  | 23, _, _ => c23
  | 24, _, _ => c24
  | 25, _, _ => c25
  | 26, _, _ => c26
  | 27, _, _ => c27
  | 28, _, _ => c28
  | 29, _, _ => c29
  | 30, _, _ => c30
  | 31, _, _ => c31
  | 32, _, _ => c32
  | 33, _, _ => c33
  | 34, _, _ => c34
  | 35, _, _ => c35
  | 36, _, _ => c36
  | 37, _, _ => c37
  | 38, _, _ => c38
  | 39, _, _ => c39
  | 40, _, _ => c40
  | 41, _, _ => c41
  | 42, _, _ => c42
  | 43, _, _ => c43
  | 44, _, _ => c44
  | 45, _, _ => c45
  | k + 46, _, h => absurd h (by omega)
theorem go : ∀ k : Nat, 1 ≤ k → k ≤ 45 → ∀ j : Nat, j < (apt.casesV k).length → apt.vat k j = true
  | 0, h, _ => absurd h (by omega)
  | 1, _, _ => g1
  | 2, _, _ => g2
  | 3, _, _ => g3
  | 4, _, _ => g4
  | 5, _, _ => g5
  | 6, _, _ => g6
  | 7, _, _ => g7
  | 8, _, _ => g8
  | 9, _, _ => g9
  | 10, _, _ => g10
  | 11, _, _ => g11
  | 12, _, _ => g12
  | 13, _, _ => g13
  | 14, _, _ => g14
  | 15, _, _ => g15
  | 16, _, _ => g16
  | 17, _, _ => g17
  | 18, _, _ => g18
  | 19, _, _ => g19
  | 20, _, _ => g20
  | 21, _, _ => g21
  | 22, _, _ => g22
  | 23, _, _ => g23
  | 24, _, _ => g24
  | 25, _, _ => g25
  | 26, _, _ => g26
  | 27, _, _ => g27
  | 28, _, _ => g28
  | 29, _, _ => g29
  | 30, _, _ => g30
  | 31, _, _ => g31
  | 32, _, _ => g32
  | 33, _, _ => g33
  | 34, _, _ => g34
  | 35, _, _ => g35
  | 36, _, _ => g36
  | 37, _, _ => g37
  | 38, _, _ => g38
  | 39, _, _ => g39
  | 40, _, _ => g40
  | 41, _, _ => g41
  | 42, _, _ => g42
  | 43, _, _ => g43
  | 44, _, _ => g44
  | 45, _, _ => g45
  | k + 46, _, h => absurd h (by omega)
theorem ex : Ex 33 31 2 := fun _ hx it _ _ _ _ hI => exV hx it lo hi cov go hI

end Go.Proofs.YtaiecnepchndkaaDoor.apw
