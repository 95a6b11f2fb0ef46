/- There and back: there is always an answer, and it is read back. -/
import Derived.Test.YtaiecnepchndkaaDoorApnP0
import Derived.Test.YtaiecnepchndkaaDoorApnP1
import Derived.Test.YtaiecnepchndkaaDoorApnP2
namespace Go.Proofs.YtaiecnepchndkaaDoor.apn
open Go.Sx

theorem n1 : (Cb.casesN 1).length = 10 := by kernel_rfl
theorem g1 : ∀ j : Nat, j < (Cb.casesN 1).length → apt.nat 1 j = true := by
  intro j hj
  rw [n1] at hj
  by_cases h : j < 10
  · exact List.all_eq_true.1 w1x0 j (List.mem_range'_1.2 ⟨by omega, by omega⟩)
  omega
theorem n2 : (Cb.casesN 2).length = 10 := by kernel_rfl
theorem g2 : ∀ j : Nat, j < (Cb.casesN 2).length → apt.nat 2 j = true := by
  intro j hj
  rw [n2] at hj
  by_cases h : j < 10
  · exact List.all_eq_true.1 w2x0 j (List.mem_range'_1.2 ⟨by omega, by omega⟩)
  omega
theorem n3 : (Cb.casesN 3).length = 10 := by kernel_rfl
theorem g3 : ∀ j : Nat, j < (Cb.casesN 3).length → apt.nat 3 j = true := by
  intro j hj
  rw [n3] at hj
  by_cases h : j < 10
  · exact List.all_eq_true.1 w3x0 j (List.mem_range'_1.2 ⟨by omega, by omega⟩)
  omega
theorem n4 : (Cb.casesN 4).length = 10 := by kernel_rfl
theorem g4 : ∀ j : Nat, j < (Cb.casesN 4).length → apt.nat 4 j = true := by
  intro j hj
  rw [n4] at hj
  by_cases h : j < 10
  · exact List.all_eq_true.1 w4x0 j (List.mem_range'_1.2 ⟨by omega, by omega⟩)
  omega
theorem n5 : (Cb.casesN 5).length = 21 := by kernel_rfl
theorem g5 : ∀ j : Nat, j < (Cb.casesN 5).length → apt.nat 5 j = true := by
  intro j hj
  rw [n5] at hj
  by_cases h : j < 8
  · exact List.all_eq_true.1 w5x0 j (List.mem_range'_1.2 ⟨by omega, by omega⟩)
  by_cases h : j < 16
  · exact List.all_eq_true.1 w5x8 j (List.mem_range'_1.2 ⟨by omega, by omega⟩)
  by_cases h : j < 21
  · exact List.all_eq_true.1 w5x16 j (List.mem_range'_1.2 ⟨by omega, by omega⟩)
  omega
theorem n6 : (Cb.casesN 6).length = 10 := by kernel_rfl
theorem g6 : ∀ j : Nat, j < (Cb.casesN 6).length → apt.nat 6 j = true := by
  intro j hj
  rw [n6] at hj
  by_cases h : j < 10
  · exact List.all_eq_true.1 w6x0 j (List.mem_range'_1.2 ⟨by omega, by omega⟩)
  omega
theorem n7 : (Cb.casesN 7).length = 21 := by kernel_rfl
theorem g7 : ∀ j : Nat, j < (Cb.casesN 7).length → apt.nat 7 j = true := by
  intro j hj
  rw [n7] at hj
  by_cases h : j < 11
  · exact List.all_eq_true.1 w7x0 j (List.mem_range'_1.2 ⟨by omega, by omega⟩)
  by_cases h : j < 21
  · exact List.all_eq_true.1 w7x11 j (List.mem_range'_1.2 ⟨by omega, by omega⟩)
  omega
theorem n8 : (Cb.casesN 8).length = 10 := by kernel_rfl
theorem g8 : ∀ j : Nat, j < (Cb.casesN 8).length → apt.nat 8 j = true := by
  intro j hj
  rw [n8] at hj
  by_cases h : j < 10
  · exact List.all_eq_true.1 w8x0 j (List.mem_range'_1.2 ⟨by omega, by omega⟩)
  omega
theorem n9 : (Cb.casesN 9).length = 10 := by kernel_rfl
theorem g9 : ∀ j : Nat, j < (Cb.casesN 9).length → apt.nat 9 j = true := by
  intro j hj
  rw [n9] at hj
  by_cases h : j < 10
  · exact List.all_eq_true.1 w9x0 j (List.mem_range'_1.2 ⟨by omega, by omega⟩)
  omega
theorem n10 : (Cb.casesN 10).length = 13 := by kernel_rfl
theorem g10 : ∀ j : Nat, j < (Cb.casesN 10).length → apt.nat 10 j = true := by
  intro j hj
  rw [n10] at hj
  by_cases h : j < 13
  · exact List.all_eq_true.1 w10x0 j (List.mem_range'_1.2 ⟨by omega, by omega⟩)
  omega
theorem n11 : (Cb.casesN 11).length = 6 := by kernel_rfl
theorem g11 : ∀ j : Nat, j < (Cb.casesN 11).length → apt.nat 11 j = true := by
  intro j hj
  rw [n11] at hj
  by_cases h : j < 6
  · exact List.all_eq_true.1 w11x0 j (List.mem_range'_1.2 ⟨by omega, by omega⟩)
  omega
theorem n12 : (Cb.casesN 12).length = 9 := by kernel_rfl
theorem g12 : ∀ j : Nat, j < (Cb.casesN 12).length → apt.nat 12 j = true := by
  intro j hj
  rw [n12] at hj
  by_cases h : j < 9
  · exact List.all_eq_true.1 w12x0 j (List.mem_range'_1.2 ⟨by omega, by omega⟩)
  omega
theorem n13 : (Cb.casesN 13).length = 6 := by kernel_rfl
theorem g13 : ∀ j : Nat, j < (Cb.casesN 13).length → apt.nat 13 j = true := by
  intro j hj
  rw [n13] at hj
  by_cases h : j < 6
  · exact List.all_eq_true.1 w13x0 j (List.mem_range'_1.2 ⟨by omega, by omega⟩)
  omega
theorem n14 : (Cb.casesN 14).length = 6 := by kernel_rfl
theorem g14 : ∀ j : Nat, j < (Cb.casesN 14).length → apt.nat 14 j = true := by
  intro j hj
  rw [n14] at hj
  by_cases h : j < 6
  · exact List.all_eq_true.1 w14x0 j (List.mem_range'_1.2 ⟨by omega, by omega⟩)
  omega
theorem n15 : (Cb.casesN 15).length = 3 := by kernel_rfl
theorem g15 : ∀ j : Nat, j < (Cb.casesN 15).length → apt.nat 15 j = true := by
  intro j hj
  rw [n15] at hj
  by_cases h : j < 3
  · exact List.all_eq_true.1 w15x0 j (List.mem_range'_1.2 ⟨by omega, by omega⟩)
  omega
theorem n16 : (Cb.casesN 16).length = 13 := by kernel_rfl
theorem g16 : ∀ j : Nat, j < (Cb.casesN 16).length → apt.nat 16 j = true := by
  intro j hj
  rw [n16] at hj
  by_cases h : j < 13
  · exact List.all_eq_true.1 w16x0 j (List.mem_range'_1.2 ⟨by omega, by omega⟩)
  omega
theorem n17 : (Cb.casesN 17).length = 17 := by kernel_rfl
theorem g17 : ∀ j : Nat, j < (Cb.casesN 17).length → apt.nat 17 j = true := by
  intro j hj
  rw [n17] at hj
  by_cases h : j < 14
  · exact List.all_eq_true.1 w17x0 j (List.mem_range'_1.2 ⟨by omega, by omega⟩)
  by_cases h : j < 17
  · exact List.all_eq_true.1 w17x14 j (List.mem_range'_1.2 ⟨by omega, by omega⟩)
  omega
theorem n18 : (Cb.casesN 18).length = 17 := by kernel_rfl
theorem g18 : ∀ j : Nat, j < (Cb.casesN 18).length → apt.nat 18 j = true := by
  intro j hj
  rw [n18] at hj
  by_cases h : j < 14
  · exact List.all_eq_true.1 w18x0 j (List.mem_range'_1.2 ⟨by omega, by omega⟩)
  by_cases h : j < 17
  · exact List.all_eq_true.1 w18x14 j (List.mem_range'_1.2 ⟨by omega, by omega⟩)
  omega
theorem n19 : (Cb.casesN 19).length = 10 := by kernel_rfl
theorem g19 : ∀ j : Nat, j < (Cb.casesN 19).length → apt.nat 19 j = true := by
  intro j hj
  rw [n19] at hj
  by_cases h : j < 10
  · exact List.all_eq_true.1 w19x0 j (List.mem_range'_1.2 ⟨by omega, by omega⟩)
  omega
theorem n20 : (Cb.casesN 20).length = 9 := by kernel_rfl
theorem g20 : ∀ j : Nat, j < (Cb.casesN 20).length → apt.nat 20 j = true := by
  intro j hj
  rw [n20] at hj
  by_cases h : j < 9
  · exact List.all_eq_true.1 w20x0 j (List.mem_range'_1.2 ⟨by omega, by omega⟩)
  omega
theorem n21 : (Cb.casesN 21).length = 2 := by kernel_rfl
theorem g21 : ∀ j : Nat, j < (Cb.casesN 21).length → apt.nat 21 j = true := by
  intro j hj
  rw [n21] at hj
  by_cases h : j < 2
  · exact List.all_eq_true.1 w21x0 j (List.mem_range'_1.2 ⟨by omega, by omega⟩)
  omega
theorem n22 : (Cb.casesN 22).length = 2 := by kernel_rfl
theorem g22 : ∀ j : Nat, j < (Cb.casesN 22).length → apt.nat 22 j = true := by
  intro j hj
  rw [n22] at hj
  by_cases h : j < 2
  · exact List.all_eq_true.1 w22x0 j (List.mem_range'_1.2 ⟨by omega, by omega⟩)
  omega
theorem n23 : (Cb.casesN 23).length = 2 := by kernel_rfl
theorem g23 : ∀ j : Nat, j < (Cb.casesN 23).length → apt.nat 23 j = true := by
  intro j hj
  rw [n23] at hj
  by_cases h : j < 2
  · exact List.all_eq_true.1 w23x0 j (List.mem_range'_1.2 ⟨by omega, by omega⟩)
  omega
theorem n24 : (Cb.casesN 24).length = 2 := by kernel_rfl
theorem g24 : ∀ j : Nat, j < (Cb.casesN 24).length → apt.nat 24 j = true := by
  intro j hj
  rw [n24] at hj
  by_cases h : j < 2
  · exact List.all_eq_true.1 w24x0 j (List.mem_range'_1.2 ⟨by omega, by omega⟩)
  omega
theorem n25 : (Cb.casesN 25).length = 22 := by kernel_rfl
theorem g25 : ∀ j : Nat, j < (Cb.casesN 25).length → apt.nat 25 j = true := by
  intro j hj
  rw [n25] at hj
  by_cases h : j < 19
  · exact List.all_eq_true.1 w25x0 j (List.mem_range'_1.2 ⟨by omega, by omega⟩)
  by_cases h : j < 22
  · exact List.all_eq_true.1 w25x19 j (List.mem_range'_1.2 ⟨by omega, by omega⟩)
  omega
theorem n26 : (Cb.casesN 26).length = 19 := by kernel_rfl
theorem g26 : ∀ j : Nat, j < (Cb.casesN 26).length → apt.nat 26 j = true := by
  intro j hj
  rw [n26] at hj
  by_cases h : j < 19
  · exact List.all_eq_true.1 w26x0 j (List.mem_range'_1.2 ⟨by omega, by omega⟩)
  omega
theorem n27 : (Cb.casesN 27).length = 20 := by kernel_rfl
theorem g27 : ∀ j : Nat, j < (Cb.casesN 27).length → apt.nat 27 j = true := by
  intro j hj
  rw [n27] at hj
  by_cases h : j < 19
  · exact List.all_eq_true.1 w27x0 j (List.mem_range'_1.2 ⟨by omega, by omega⟩)
  by_cases h : j < 20
  · exact List.all_eq_true.1 w27x19 j (List.mem_range'_1.2 ⟨by omega, by omega⟩)
  omega
theorem n28 : (Cb.casesN 28).length = 22 := by kernel_rfl
theorem g28 : ∀ j : Nat, j < (Cb.casesN 28).length → apt.nat 28 j = true := by
  intro j hj
  rw [n28] at hj
  by_cases h : j < 18
  · exact List.all_eq_true.1 w28x0 j (List.mem_range'_1.2 ⟨by omega, by omega⟩)
  by_cases h : j < 22
  · exact List.all_eq_true.1 w28x18 j (List.mem_range'_1.2 ⟨by omega, by omega⟩)
  omega
theorem n29 : (Cb.casesN 29).length = 19 := by kernel_rfl
theorem g29 : ∀ j : Nat, j < (Cb.casesN 29).length → apt.nat 29 j = true := by
  intro j hj
  rw [n29] at hj
  by_cases h : j < 19
  · exact List.all_eq_true.1 w29x0 j (List.mem_range'_1.2 ⟨by omega, by omega⟩)
  omega
theorem n30 : (Cb.casesN 30).length = 20 := by kernel_rfl
theorem g30 : ∀ j : Nat, j < (Cb.casesN 30).length → apt.nat 30 j = true := by
  intro j hj
  rw [n30] at hj
  by_cases h : j < 18
  · exact List.all_eq_true.1 w30x0 j (List.mem_range'_1.2 ⟨by omega, by omega⟩)
  by_cases h : j < 20
  · exact List.all_eq_true.1 w30x18 j (List.mem_range'_1.2 ⟨by omega, by omega⟩)
  omega
theorem n31 : (Cb.casesN 31).length = 5 := by kernel_rfl
theorem g31 : ∀ j : Nat, j < (Cb.casesN 31).length → apt.nat 31 j = true := by
  intro j hj
  rw [n31] at hj
  by_cases h : j < 1
  · exact List.all_eq_true.1 w31x0 j (List.mem_range'_1.2 ⟨by omega, by omega⟩)
  by_cases h : j < 4
  · exact List.all_eq_true.1 w31x1 j (List.mem_range'_1.2 ⟨by omega, by omega⟩)
  by_cases h : j < 5
  · exact List.all_eq_true.1 w31x4 j (List.mem_range'_1.2 ⟨by omega, by omega⟩)
  omega
theorem n32 : (Cb.casesN 32).length = 5 := by kernel_rfl
theorem g32 : ∀ j : Nat, j < (Cb.casesN 32).length → apt.nat 32 j = true := by
  intro j hj
  rw [n32] at hj
  by_cases h : j < 1
  · exact List.all_eq_true.1 w32x0 j (List.mem_range'_1.2 ⟨by omega, by omega⟩)
  by_cases h : j < 4
  · exact List.all_eq_true.1 w32x1 j (List.mem_range'_1.2 ⟨by omega, by omega⟩)
  by_cases h : j < 5
  · exact List.all_eq_true.1 w32x4 j (List.mem_range'_1.2 ⟨by omega, by omega⟩)
  omega
theorem n33 : (Cb.casesN 33).length = 3 := by kernel_rfl
theorem g33 : ∀ j : Nat, j < (Cb.casesN 33).length → apt.nat 33 j = true := by
  intro j hj
  rw [n33] at hj
  by_cases h : j < 3
  · exact List.all_eq_true.1 w33x0 j (List.mem_range'_1.2 ⟨by omega, by omega⟩)
  omega
theorem n34 : (Cb.casesN 34).length = 3 := by kernel_rfl
theorem g34 : ∀ j : Nat, j < (Cb.casesN 34).length → apt.nat 34 j = true := by
  intro j hj
  rw [n34] at hj
  by_cases h : j < 3
  · exact List.all_eq_true.1 w34x0 j (List.mem_range'_1.2 ⟨by omega, by omega⟩)
  omega
theorem n35 : (Cb.casesN 35).length = 7 := by kernel_rfl
theorem g35 : ∀ j : Nat, j < (Cb.casesN 35).length → apt.nat 35 j = true := by
  intro j hj
  rw [n35] at hj
  by_cases h : j < 4
  · exact List.all_eq_true.1 w35x0 j (List.mem_range'_1.2 ⟨by omega, by omega⟩)
  by_cases h : j < 6
  · exact List.all_eq_true.1 w35x4 j (List.mem_range'_1.2 ⟨by omega, by omega⟩)
  by_cases h : j < 7
  · exact List.all_eq_true.1 w35x6 j (List.mem_range'_1.2 ⟨by omega, by omega⟩)
  omega
theorem n36 : (Cb.casesN 36).length = 2 := by kernel_rfl
theorem g36 : ∀ j : Nat, j < (Cb.casesN 36).length → apt.nat 36 j = true := by
  intro j hj
  rw [n36] at hj
  by_cases h : j < 2
  · exact List.all_eq_true.1 w36x0 j (List.mem_range'_1.2 ⟨by omega, by omega⟩)
  omega
theorem n37 : (Cb.casesN 37).length = 2 := by kernel_rfl
theorem g37 : ∀ j : Nat, j < (Cb.casesN 37).length → apt.nat 37 j = true := by
  intro j hj
  rw [n37] at hj
  by_cases h : j < 2
  · exact List.all_eq_true.1 w37x0 j (List.mem_range'_1.2 ⟨by omega, by omega⟩)
  omega
theorem n38 : (Cb.casesN 38).length = 2 := by kernel_rfl
theorem g38 : ∀ j : Nat, j < (Cb.casesN 38).length → apt.nat 38 j = true := by
  intro j hj
  rw [n38] at hj
  by_cases h : j < 2
  · exact List.all_eq_true.1 w38x0 j (List.mem_range'_1.2 ⟨by omega, by omega⟩)
  omega
theorem n39 : (Cb.casesN 39).length = 2 := by kernel_rfl
theorem g39 : ∀ j : Nat, j < (Cb.casesN 39).length → apt.nat 39 j = true := by
  intro j hj
  rw [n39] at hj
  by_cases h : j < 2
  · exact List.all_eq_true.1 w39x0 j (List.mem_range'_1.2 ⟨by omega, by omega⟩)
  omega
theorem n40 : (Cb.casesN 40).length = 9 := by kernel_rfl
theorem g40 : ∀ j : Nat, j < (Cb.casesN 40).length → apt.nat 40 j = true := by
  intro j hj
  rw [n40] at hj
  by_cases h : j < 9
  · exact List.all_eq_true.1 w40x0 j (List.mem_range'_1.2 ⟨by omega, by omega⟩)
  omega
theorem n41 : (Cb.casesN 41).length = 9 := by kernel_rfl
theorem g41 : ∀ j : Nat, j < (Cb.casesN 41).length → apt.nat 41 j = true := by
  intro j hj
  rw [n41] at hj
  by_cases h : j < 9
  · exact List.all_eq_true.1 w41x0 j (List.mem_range'_1.2 ⟨by omega, by omega⟩)
  omega
theorem n42 : (Cb.casesN 42).length = 2 := by kernel_rfl
theorem g42 : ∀ j : Nat, j < (Cb.casesN 42).length → apt.nat 42 j = true := by
  intro j hj
  rw [n42] at hj
  by_cases h : j < 2
  · exact List.all_eq_true.1 w42x0 j (List.mem_range'_1.2 ⟨by omega, by omega⟩)
  omega
theorem n43 : (Cb.casesN 43).length = 2 := by kernel_rfl
theorem g43 : ∀ j : Nat, j < (Cb.casesN 43).length → apt.nat 43 j = true := by
  intro j hj
  rw [n43] at hj
  by_cases h : j < 2
  · exact List.all_eq_true.1 w43x0 j (List.mem_range'_1.2 ⟨by omega, by omega⟩)
  omega
theorem n44 : (Cb.casesN 44).length = 2 := by kernel_rfl
theorem g44 : ∀ j : Nat, j < (Cb.casesN 44).length → apt.nat 44 j = true := by
  intro j hj
  rw [n44] at hj
  by_cases h : j < 2
  · exact List.all_eq_true.1 w44x0 j (List.mem_range'_1.2 ⟨by omega, by omega⟩)
  omega
theorem n45 : (Cb.casesN 45).length = 2 := by kernel_rfl
theorem g45 : ∀ j : Nat, j < (Cb.casesN 45).length → apt.nat 45 j = true := by
  intro j hj
  rw [n45] at hj
  by_cases h : j < 2
  · exact List.all_eq_true.1 w45x0 j (List.mem_range'_1.2 ⟨by omega, by omega⟩)
  omega
theorem cov : ∀ k : Nat, 1 ≤ k → k ≤ 45 → apt.covN k = true
  | 0, h, _ => absurd h (by omega)
  | 1, _, _ => c1
  | 2, _, _ => c2
  | 3, _, _ => c3
  | 4, _, _ => c4
  | 5, _, _ => c5
  | 6, _, _ => c6
  | 7, _, _ => c7
  | 8, _, _ => c8
  | 9, _, _ => c9
  | 10, _, _ => c10
  | 11, _, _ => c11
  | 12, _, _ => c12
  | 13, _, _ => c13
  | 14, _, _ => c14
  | 15, _, _ => c15
  | 16, _, _ => c16
  | 17, _, _ => c17
  | 18, _, _ => c18
  | 19, _, _ => c19
  | 20, _, _ => c20
  | 21, _, _ => c21
  | 22, _, _ => c22
  | 23, _, _ => c23
  | 24, _, _ => c24
  | 25, _, _ => c25
  | 26, _, _ => c26
  | 27, _, _ => c27
  | 28, _, _ => c28
  | 29, _, _ => c29
  | 30, _, _ => c30
  | 31, _, _ => c31
  | 32, _, _ => c32
  | 33, _, _ => c33
  | 34, _, _ => c34
  | 35, _, _ => c35
  | 36, _, _ => c36
  | 37, _, _ => c37
  | 38, _, _ => c38
  | 39, _, _ => c39
  | 40, _, _ => c40
  | 41, _, _ => c41
  | 42, _, _ => c42
  | 43, _, _ => c43
  | 44, _, _ => c44
  | 45, _, _ => c45
  | k + 46, _, h => absurd h (by omega)
theorem go : ∀ k : Nat, 1 ≤ k → k ≤ 45 → ∀ j : Nat, j < (Cb.casesN k).length → apt.nat k j = true
  | 0, h, _ => absurd h (by omega)
  | 1, _, _ => g1
  | 2, _, _ => g2
  | 3, _, _ => g3
  | 4, _, _ => g4
  | 5, _, _ => g5
  | 6, _, _ => g6
  | 7, _, _ => g7
  | 8, _, _ => g8
  | 9, _, _ => g9
  | 10, _, _ => g10
  | 11, _, _ => g11
  | 12, _, _ => g12
  | 13, _, _ => g13
  | 14, _, _ => g14
  | 15, _, _ => g15
  | 16, _, _ => g16
  | 17, _, _ => g17
  | 18, _, _ => g18
  | 19, _, _ => g19
  | 20, _, _ => g20
  | 21, _, _ => g21
  | 22, _, _ => g22
  | 23, _, _ => g23
  | 24, _, _ => g24
  | 25, _, _ => g25
  | 26, _, _ => g26
  | 27, _, _ => g27
  | 28, _, _ => g28
  | 29, _, _ => g29
  | 30, _, _ => g30
  | 31, _, _ => g31
  | 32, _, _ => g32
  | 33, _, _ => g33
  | 34, _, _ => g34
  | 35, _, _ => g35
  | 36, _, _ => g36
  | 37, _, _ => g37
  | 38, _, _ => g38
  | 39, _, _ => g39
  | 40, _, _ => g40
  | 41, _, _ => g41
  | 42, _, _ => g42
  | 43, _, _ => g43
  | 44, _, _ => g44
  | 45, _, _ => g45
  | k + 46, _, h => absurd h (by omega)
theorem ex : Ex 27 20 1 := fun _ hx it _ _ _ _ hI => exN hx it lo hi cov go hI

end Go.Proofs.YtaiecnepchndkaaDoor.apn
