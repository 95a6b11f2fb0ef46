/- ShortBack: for every input the law returns true, and the arguments read as before. The package's variable offs.kinds starts as the program's text lays it (the card's tie). -/
import Derived.Test.YtaiecnepchndkaaDoorShortBackP0
import Derived.Test.YtaiecnepchndkaaDoorShortBackP1
import Derived.Test.YtaiecnepchndkaaDoorShortBackP2
import Derived.Test.YtaiecnepchndkaaDoorEnter
namespace Go.Proofs.YtaiecnepchndkaaDoor.shortBack
open Go.ChangeShapes Go.WideShapes Go.ChangeAt Go.RowKit Go.Sx

theorem n1 : (Cb.casesN 1).length = 10 := by kernel_rfl
theorem g1 : ∀ j : Nat, j < (Cb.casesN 1).length → shb.caseAt 4 1 j = true := by
  intro j hj
  rw [n1] at hj
  by_cases h : j < 10
  · exact List.all_eq_true.1 w1_0 j (List.mem_range'_1.2 ⟨by omega, by omega⟩)
  omega
theorem n2 : (Cb.casesN 2).length = 10 := by kernel_rfl
theorem g2 : ∀ j : Nat, j < (Cb.casesN 2).length → shb.caseAt 4 2 j = true := by
  intro j hj
  rw [n2] at hj
  by_cases h : j < 10
  · exact List.all_eq_true.1 w2_0 j (List.mem_range'_1.2 ⟨by omega, by omega⟩)
  omega
theorem n3 : (Cb.casesN 3).length = 10 := by kernel_rfl
theorem g3 : ∀ j : Nat, j < (Cb.casesN 3).length → shb.caseAt 4 3 j = true := by
  intro j hj
  rw [n3] at hj
  by_cases h : j < 10
  · exact List.all_eq_true.1 w3_0 j (List.mem_range'_1.2 ⟨by omega, by omega⟩)
  omega
theorem n4 : (Cb.casesN 4).length = 10 := by kernel_rfl
theorem g4 : ∀ j : Nat, j < (Cb.casesN 4).length → shb.caseAt 4 4 j = true := by
  intro j hj
  rw [n4] at hj
  by_cases h : j < 10
  · exact List.all_eq_true.1 w4_0 j (List.mem_range'_1.2 ⟨by omega, by omega⟩)
  omega
theorem n5 : (Cb.casesN 5).length = 21 := by kernel_rfl
theorem g5 : ∀ j : Nat, j < (Cb.casesN 5).length → shb.caseAt 4 5 j = true := by
  intro j hj
  rw [n5] at hj
  by_cases h : j < 10
  · exact List.all_eq_true.1 w5_0 j (List.mem_range'_1.2 ⟨by omega, by omega⟩)
  by_cases h : j < 15
  · exact List.all_eq_true.1 w5_10 j (List.mem_range'_1.2 ⟨by omega, by omega⟩)
  by_cases h : j < 21
  · exact List.all_eq_true.1 w5_15 j (List.mem_range'_1.2 ⟨by omega, by omega⟩)
  omega
theorem n6 : (Cb.casesN 6).length = 10 := by kernel_rfl
theorem g6 : ∀ j : Nat, j < (Cb.casesN 6).length → shb.caseAt 4 6 j = true := by
  intro j hj
  rw [n6] at hj
  by_cases h : j < 10
  · exact List.all_eq_true.1 w6_0 j (List.mem_range'_1.2 ⟨by omega, by omega⟩)
  omega
theorem n7 : (Cb.casesN 7).length = 21 := by kernel_rfl
theorem g7 : ∀ j : Nat, j < (Cb.casesN 7).length → shb.caseAt 4 7 j = true := by
  intro j hj
  rw [n7] at hj
  by_cases h : j < 11
  · exact List.all_eq_true.1 w7_0 j (List.mem_range'_1.2 ⟨by omega, by omega⟩)
  by_cases h : j < 21
  · exact List.all_eq_true.1 w7_11 j (List.mem_range'_1.2 ⟨by omega, by omega⟩)
  omega
theorem n8 : (Cb.casesN 8).length = 10 := by kernel_rfl
theorem g8 : ∀ j : Nat, j < (Cb.casesN 8).length → shb.caseAt 4 8 j = true := by
  intro j hj
  rw [n8] at hj
  by_cases h : j < 10
  · exact List.all_eq_true.1 w8_0 j (List.mem_range'_1.2 ⟨by omega, by omega⟩)
  omega
theorem n9 : (Cb.casesN 9).length = 10 := by kernel_rfl
theorem g9 : ∀ j : Nat, j < (Cb.casesN 9).length → shb.caseAt 4 9 j = true := by
  intro j hj
  rw [n9] at hj
  by_cases h : j < 10
  · exact List.all_eq_true.1 w9_0 j (List.mem_range'_1.2 ⟨by omega, by omega⟩)
  omega
theorem n10 : (Cb.casesN 10).length = 13 := by kernel_rfl
theorem g10 : ∀ j : Nat, j < (Cb.casesN 10).length → shb.caseAt 4 10 j = true := by
  intro j hj
  rw [n10] at hj
  by_cases h : j < 13
  · exact List.all_eq_true.1 w10_0 j (List.mem_range'_1.2 ⟨by omega, by omega⟩)
  omega
theorem n11 : (Cb.casesN 11).length = 6 := by kernel_rfl
theorem g11 : ∀ j : Nat, j < (Cb.casesN 11).length → shb.caseAt 4 11 j = true := by
  intro j hj
  rw [n11] at hj
  by_cases h : j < 6
  · exact List.all_eq_true.1 w11_0 j (List.mem_range'_1.2 ⟨by omega, by omega⟩)
  omega
theorem n12 : (Cb.casesN 12).length = 9 := by kernel_rfl
theorem g12 : ∀ j : Nat, j < (Cb.casesN 12).length → shb.caseAt 4 12 j = true := by
  intro j hj
  rw [n12] at hj
  by_cases h : j < 9
  · exact List.all_eq_true.1 w12_0 j (List.mem_range'_1.2 ⟨by omega, by omega⟩)
  omega
theorem n13 : (Cb.casesN 13).length = 6 := by kernel_rfl
theorem g13 : ∀ j : Nat, j < (Cb.casesN 13).length → shb.caseAt 4 13 j = true := by
  intro j hj
  rw [n13] at hj
  by_cases h : j < 6
  · exact List.all_eq_true.1 w13_0 j (List.mem_range'_1.2 ⟨by omega, by omega⟩)
  omega
theorem n14 : (Cb.casesN 14).length = 6 := by kernel_rfl
theorem g14 : ∀ j : Nat, j < (Cb.casesN 14).length → shb.caseAt 4 14 j = true := by
  intro j hj
  rw [n14] at hj
  by_cases h : j < 6
  · exact List.all_eq_true.1 w14_0 j (List.mem_range'_1.2 ⟨by omega, by omega⟩)
  omega
theorem n15 : (Cb.casesN 15).length = 3 := by kernel_rfl
theorem g15 : ∀ j : Nat, j < (Cb.casesN 15).length → shb.caseAt 4 15 j = true := by
  intro j hj
  rw [n15] at hj
  by_cases h : j < 3
  · exact List.all_eq_true.1 w15_0 j (List.mem_range'_1.2 ⟨by omega, by omega⟩)
  omega
theorem n16 : (Cb.casesN 16).length = 13 := by kernel_rfl
theorem g16 : ∀ j : Nat, j < (Cb.casesN 16).length → shb.caseAt 4 16 j = true := by
  intro j hj
  rw [n16] at hj
  by_cases h : j < 11
  · exact List.all_eq_true.1 w16_0 j (List.mem_range'_1.2 ⟨by omega, by omega⟩)
  by_cases h : j < 13
  · exact List.all_eq_true.1 w16_11 j (List.mem_range'_1.2 ⟨by omega, by omega⟩)
  omega
theorem n17 : (Cb.casesN 17).length = 17 := by kernel_rfl
theorem g17 : ∀ j : Nat, j < (Cb.casesN 17).length → shb.caseAt 4 17 j = true := by
  intro j hj
  rw [n17] at hj
  by_cases h : j < 11
  · exact List.all_eq_true.1 w17_0 j (List.mem_range'_1.2 ⟨by omega, by omega⟩)
  by_cases h : j < 17
  · exact List.all_eq_true.1 w17_11 j (List.mem_range'_1.2 ⟨by omega, by omega⟩)
  omega
theorem n18 : (Cb.casesN 18).length = 17 := by kernel_rfl
theorem g18 : ∀ j : Nat, j < (Cb.casesN 18).length → shb.caseAt 4 18 j = true := by
  intro j hj
  rw [n18] at hj
  by_cases h : j < 12
  · exact List.all_eq_true.1 w18_0 j (List.mem_range'_1.2 ⟨by omega, by omega⟩)
  by_cases h : j < 17
  · exact List.all_eq_true.1 w18_12 j (List.mem_range'_1.2 ⟨by omega, by omega⟩)
  omega
theorem n19 : (Cb.casesN 19).length = 10 := by kernel_rfl
theorem g19 : ∀ j : Nat, j < (Cb.casesN 19).length → shb.caseAt 4 19 j = true := by
  intro j hj
  rw [n19] at hj
  by_cases h : j < 10
  · exact List.all_eq_true.1 w19_0 j (List.mem_range'_1.2 ⟨by omega, by omega⟩)
  omega
theorem n20 : (Cb.casesN 20).length = 9 := by kernel_rfl
theorem g20 : ∀ j : Nat, j < (Cb.casesN 20).length → shb.caseAt 4 20 j = true := by
  intro j hj
  rw [n20] at hj
  by_cases h : j < 9
  · exact List.all_eq_true.1 w20_0 j (List.mem_range'_1.2 ⟨by omega, by omega⟩)
  omega
theorem n21 : (Cb.casesN 21).length = 2 := by kernel_rfl
theorem g21 : ∀ j : Nat, j < (Cb.casesN 21).length → shb.caseAt 4 21 j = true := by
  intro j hj
  rw [n21] at hj
  by_cases h : j < 2
  · exact List.all_eq_true.1 w21_0 j (List.mem_range'_1.2 ⟨by omega, by omega⟩)
  omega
theorem n22 : (Cb.casesN 22).length = 2 := by kernel_rfl
theorem g22 : ∀ j : Nat, j < (Cb.casesN 22).length → shb.caseAt 4 22 j = true := by
  intro j hj
  rw [n22] at hj
  by_cases h : j < 2
  · exact List.all_eq_true.1 w22_0 j (List.mem_range'_1.2 ⟨by omega, by omega⟩)
  omega
theorem n23 : (Cb.casesN 23).length = 2 := by kernel_rfl
theorem g23 : ∀ j : Nat, j < (Cb.casesN 23).length → shb.caseAt 4 23 j = true := by
  intro j hj
  rw [n23] at hj
  by_cases h : j < 2
  · exact List.all_eq_true.1 w23_0 j (List.mem_range'_1.2 ⟨by omega, by omega⟩)
  omega
theorem n24 : (Cb.casesN 24).length = 2 := by kernel_rfl
theorem g24 : ∀ j : Nat, j < (Cb.casesN 24).length → shb.caseAt 4 24 j = true := by
  intro j hj
  rw [n24] at hj
  by_cases h : j < 2
  · exact List.all_eq_true.1 w24_0 j (List.mem_range'_1.2 ⟨by omega, by omega⟩)
  omega
theorem n25 : (Cb.casesN 25).length = 22 := by kernel_rfl
theorem g25 : ∀ j : Nat, j < (Cb.casesN 25).length → shb.caseAt 4 25 j = true := by
  intro j hj
  rw [n25] at hj
  by_cases h : j < 15
  · exact List.all_eq_true.1 w25_0 j (List.mem_range'_1.2 ⟨by omega, by omega⟩)
  by_cases h : j < 22
  · exact List.all_eq_true.1 w25_15 j (List.mem_range'_1.2 ⟨by omega, by omega⟩)
  omega
theorem n26 : (Cb.casesN 26).length = 19 := by kernel_rfl
theorem g26 : ∀ j : Nat, j < (Cb.casesN 26).length → shb.caseAt 4 26 j = true := by
  intro j hj
  rw [n26] at hj
  by_cases h : j < 15
  · exact List.all_eq_true.1 w26_0 j (List.mem_range'_1.2 ⟨by omega, by omega⟩)
  by_cases h : j < 19
  · exact List.all_eq_true.1 w26_15 j (List.mem_range'_1.2 ⟨by omega, by omega⟩)
  omega
theorem n27 : (Cb.casesN 27).length = 20 := by kernel_rfl
theorem g27 : ∀ j : Nat, j < (Cb.casesN 27).length → shb.caseAt 4 27 j = true := by
  intro j hj
  rw [n27] at hj
  by_cases h : j < 17
  · exact List.all_eq_true.1 w27_0 j (List.mem_range'_1.2 ⟨by omega, by omega⟩)
  by_cases h : j < 20
  · exact List.all_eq_true.1 w27_17 j (List.mem_range'_1.2 ⟨by omega, by omega⟩)
  omega
theorem n28 : (Cb.casesN 28).length = 22 := by kernel_rfl
theorem g28 : ∀ j : Nat, j < (Cb.casesN 28).length → shb.caseAt 4 28 j = true := by
  intro j hj
  rw [n28] at hj
  by_cases h : j < 15
  · exact List.all_eq_true.1 w28_0 j (List.mem_range'_1.2 ⟨by omega, by omega⟩)
  by_cases h : j < 22
  · exact List.all_eq_true.1 w28_15 j (List.mem_range'_1.2 ⟨by omega, by omega⟩)
  omega
theorem n29 : (Cb.casesN 29).length = 19 := by kernel_rfl
theorem g29 : ∀ j : Nat, j < (Cb.casesN 29).length → shb.caseAt 4 29 j = true := by
  intro j hj
  rw [n29] at hj
  by_cases h : j < 15
  · exact List.all_eq_true.1 w29_0 j (List.mem_range'_1.2 ⟨by omega, by omega⟩)
  by_cases h : j < 19
  · exact List.all_eq_true.1 w29_15 j (List.mem_range'_1.2 ⟨by omega, by omega⟩)
  omega
theorem n30 : (Cb.casesN 30).length = 20 := by kernel_rfl
theorem g30 : ∀ j : Nat, j < (Cb.casesN 30).length → shb.caseAt 4 30 j = true := by
  intro j hj
  rw [n30] at hj
  by_cases h : j < 16
  · exact List.all_eq_true.1 w30_0 j (List.mem_range'_1.2 ⟨by omega, by omega⟩)
  by_cases h : j < 20
  · exact List.all_eq_true.1 w30_16 j (List.mem_range'_1.2 ⟨by omega, by omega⟩)
  omega
theorem n31 : (Cb.casesN 31).length = 5 := by kernel_rfl
theorem g31 : ∀ j : Nat, j < (Cb.casesN 31).length → shb.caseAt 4 31 j = true := by
  intro j hj
  rw [n31] at hj
  by_cases h : j < 1
  · exact List.all_eq_true.1 w31_0 j (List.mem_range'_1.2 ⟨by omega, by omega⟩)
  by_cases h : j < 2
  · exact List.all_eq_true.1 w31_1 j (List.mem_range'_1.2 ⟨by omega, by omega⟩)
  by_cases h : j < 5
  · exact List.all_eq_true.1 w31_2 j (List.mem_range'_1.2 ⟨by omega, by omega⟩)
  omega
theorem n32 : (Cb.casesN 32).length = 5 := by kernel_rfl
theorem g32 : ∀ j : Nat, j < (Cb.casesN 32).length → shb.caseAt 4 32 j = true := by
  intro j hj
  rw [n32] at hj
  by_cases h : j < 1
  · exact List.all_eq_true.1 w32_0 j (List.mem_range'_1.2 ⟨by omega, by omega⟩)
  by_cases h : j < 2
  · exact List.all_eq_true.1 w32_1 j (List.mem_range'_1.2 ⟨by omega, by omega⟩)
  by_cases h : j < 5
  · exact List.all_eq_true.1 w32_2 j (List.mem_range'_1.2 ⟨by omega, by omega⟩)
  omega
theorem n33 : (Cb.casesN 33).length = 3 := by kernel_rfl
theorem g33 : ∀ j : Nat, j < (Cb.casesN 33).length → shb.caseAt 4 33 j = true := by
  intro j hj
  rw [n33] at hj
  by_cases h : j < 3
  · exact List.all_eq_true.1 w33_0 j (List.mem_range'_1.2 ⟨by omega, by omega⟩)
  omega
theorem n34 : (Cb.casesN 34).length = 3 := by kernel_rfl
theorem g34 : ∀ j : Nat, j < (Cb.casesN 34).length → shb.caseAt 4 34 j = true := by
  intro j hj
  rw [n34] at hj
  by_cases h : j < 3
  · exact List.all_eq_true.1 w34_0 j (List.mem_range'_1.2 ⟨by omega, by omega⟩)
  omega
theorem n35 : (Cb.casesN 35).length = 7 := by kernel_rfl
theorem g35 : ∀ j : Nat, j < (Cb.casesN 35).length → shb.caseAt 4 35 j = true := by
  intro j hj
  rw [n35] at hj
  by_cases h : j < 7
  · exact List.all_eq_true.1 w35_0 j (List.mem_range'_1.2 ⟨by omega, by omega⟩)
  omega
theorem n36 : (Cb.casesN 36).length = 2 := by kernel_rfl
theorem g36 : ∀ j : Nat, j < (Cb.casesN 36).length → shb.caseAt 4 36 j = true := by
  intro j hj
  rw [n36] at hj
  by_cases h : j < 2
  · exact List.all_eq_true.1 w36_0 j (List.mem_range'_1.2 ⟨by omega, by omega⟩)
  omega
theorem n37 : (Cb.casesN 37).length = 2 := by kernel_rfl
theorem g37 : ∀ j : Nat, j < (Cb.casesN 37).length → shb.caseAt 4 37 j = true := by
  intro j hj
  rw [n37] at hj
  by_cases h : j < 2
  · exact List.all_eq_true.1 w37_0 j (List.mem_range'_1.2 ⟨by omega, by omega⟩)
  omega
theorem n38 : (Cb.casesN 38).length = 2 := by kernel_rfl
theorem g38 : ∀ j : Nat, j < (Cb.casesN 38).length → shb.caseAt 4 38 j = true := by
  intro j hj
  rw [n38] at hj
  by_cases h : j < 2
  · exact List.all_eq_true.1 w38_0 j (List.mem_range'_1.2 ⟨by omega, by omega⟩)
  omega
theorem n39 : (Cb.casesN 39).length = 2 := by kernel_rfl
theorem g39 : ∀ j : Nat, j < (Cb.casesN 39).length → shb.caseAt 4 39 j = true := by
  intro j hj
  rw [n39] at hj
  by_cases h : j < 2
  · exact List.all_eq_true.1 w39_0 j (List.mem_range'_1.2 ⟨by omega, by omega⟩)
  omega
theorem n40 : (Cb.casesN 40).length = 9 := by kernel_rfl
theorem g40 : ∀ j : Nat, j < (Cb.casesN 40).length → shb.caseAt 4 40 j = true := by
  intro j hj
  rw [n40] at hj
  by_cases h : j < 9
  · exact List.all_eq_true.1 w40_0 j (List.mem_range'_1.2 ⟨by omega, by omega⟩)
  omega
theorem n41 : (Cb.casesN 41).length = 9 := by kernel_rfl
theorem g41 : ∀ j : Nat, j < (Cb.casesN 41).length → shb.caseAt 4 41 j = true := by
  intro j hj
  rw [n41] at hj
  by_cases h : j < 9
  · exact List.all_eq_true.1 w41_0 j (List.mem_range'_1.2 ⟨by omega, by omega⟩)
  omega
theorem n42 : (Cb.casesN 42).length = 2 := by kernel_rfl
theorem g42 : ∀ j : Nat, j < (Cb.casesN 42).length → shb.caseAt 4 42 j = true := by
  intro j hj
  rw [n42] at hj
  by_cases h : j < 2
  · exact List.all_eq_true.1 w42_0 j (List.mem_range'_1.2 ⟨by omega, by omega⟩)
  omega
theorem n43 : (Cb.casesN 43).length = 2 := by kernel_rfl
theorem g43 : ∀ j : Nat, j < (Cb.casesN 43).length → shb.caseAt 4 43 j = true := by
  intro j hj
  rw [n43] at hj
  by_cases h : j < 2
  · exact List.all_eq_true.1 w43_0 j (List.mem_range'_1.2 ⟨by omega, by omega⟩)
  omega
theorem n44 : (Cb.casesN 44).length = 2 := by kernel_rfl
theorem g44 : ∀ j : Nat, j < (Cb.casesN 44).length → shb.caseAt 4 44 j = true := by
  intro j hj
  rw [n44] at hj
  by_cases h : j < 2
  · exact List.all_eq_true.1 w44_0 j (List.mem_range'_1.2 ⟨by omega, by omega⟩)
  omega
theorem n45 : (Cb.casesN 45).length = 2 := by kernel_rfl
theorem g45 : ∀ j : Nat, j < (Cb.casesN 45).length → shb.caseAt 4 45 j = true := by
  intro j hj
  rw [n45] at hj
  by_cases h : j < 2
  · exact List.all_eq_true.1 w45_0 j (List.mem_range'_1.2 ⟨by omega, by omega⟩)
  omega
theorem cov : ∀ k : Nat, 1 ≤ k → k ≤ 45 → shb.covered k = true
  | 0, h, _ => absurd h (by omega)
  | 1, _, _ => c1
  | 2, _, _ => c2
  | 3, _, _ => c3
  | 4, _, _ => c4
  | 5, _, _ => c5
  | 6, _, _ => c6
  | 7, _, _ => c7
  | 8, _, _ => c8
  | 9, _, _ => c9
  | 10, _, _ => c10
  | 11, _, _ => c11
  | 12, _, _ => c12
  | 13, _, _ => c13
  | 14, _, _ => c14
  | 15, _, _ => c15
  | 16, _, _ => c16
  | 17, _, _ => c17
  | 18, _, _ => c18
  | 19, _, _ => c19
  | 20, _, _ => c20
  | 21, _, _ => c21
  | 22, _, _ => c22
  | 23, _, _ => c23
  | 24, _, _ => c24
  | 25, _, _ => c25
  | 26, _, _ => c26
  | 27, _, _ => c27
  | 28, _, _ => c28
  | 29, _, _ => c29
  | 30, _, _ => c30
  | 31, _, _ => c31
  | 32, _, _ => c32
  | 33, _, _ => c33
  | 34, _, _ => c34
  | 35, _, _ => c35
  | 36, _, _ => c36
  | 37, _, _ => c37
  | 38, _, _ => c38
  | 39, _, _ => c39
  | 40, _, _ => c40
  | 41, _, _ => c41
  | 42, _, _ => c42
  | 43, _, _ => c43
  | 44, _, _ => c44
  | 45, _, _ => c45
  | k + 46, _, h => absurd h (by omega)
theorem go : ∀ k : Nat, 1 ≤ k → k ≤ 45 → ∀ j : Nat, j < (Cb.casesN k).length → shb.caseAt 4 k j = true
  | 0, h, _ => absurd h (by omega)
  | 1, _, _ => g1
  | 2, _, _ => g2
  | 3, _, _ => g3
  | 4, _, _ => g4
  | 5, _, _ => g5
  | 6, _, _ => g6
  | 7, _, _ => g7
  | 8, _, _ => g8
  | 9, _, _ => g9
  | 10, _, _ => g10
  | 11, _, _ => g11
  | 12, _, _ => g12
  | 13, _, _ => g13
  | 14, _, _ => g14
  | 15, _, _ => g15
  | 16, _, _ => g16
  | 17, _, _ => g17
  | 18, _, _ => g18
  | 19, _, _ => g19
  | 20, _, _ => g20
  | 21, _, _ => g21
  | 22, _, _ => g22
  | 23, _, _ => g23
  | 24, _, _ => g24
  | 25, _, _ => g25
  | 26, _, _ => g26
  | 27, _, _ => g27
  | 28, _, _ => g28
  | 29, _, _ => g29
  | 30, _, _ => g30
  | 31, _, _ => g31
  | 32, _, _ => g32
  | 33, _, _ => g33
  | 34, _, _ => g34
  | 35, _, _ => g35
  | 36, _, _ => g36
  | 37, _, _ => g37
  | 38, _, _ => g38
  | 39, _, _ => g39
  | 40, _, _ => g40
  | 41, _, _ => g41
  | 42, _, _ => g42
  | 43, _, _ => g43
  | 44, _, _ => g44
  | 45, _, _ => g45
  | k + 46, _, h => absurd h (by omega)

theorem walk {x : Fields} (hx : x.Ok) (it : Bool) {w : World} (hw : Laid w) : Calls Tryd.prog 4 #[x.val, .bool it] w fun e w' => e = .returned (.bool true) ∧ Grown w w' := shb_two lo hi cov go hx it hw

theorem wit (os : Os) : ((laidWorld os).forCall (fun _ _ => 0) ⟨#[], #[zeroIns, .bool false], []⟩).memory.heap[0]? = some (.cells cells12 126 (0, 0)) := by kernel_rfl

set_option maxRecDepth 100000 in
theorem lifted (os : Os) (started : os.Started) (H : Type) (enc : TypeId × Value → H) :
    ReturnsInHanded {} Tryd.checked os 4 .any (fun w args => (Rows.shortBackSpec.pre enc Tryd.prog Tryd.f4 Rows.shortBackRow.domain false w args ∧ laidMet Tryd.prog [("cartouche/offs.kinds", Rows.laid_cartouche_offs_kinds)] w) ∧ sizedMet enc Tryd.prog Tryd.f4 (OpenSpec.ofChange Rows.shortBackSpec) false w args)
      (Rows.shortBackSpec.post enc Tryd.prog Tryd.f4 false true false false) := by
  refine returnsInHanded_of_change_and (C := Tryd.checked) (X := fun w _ => laidMet Tryd.prog [("cartouche/offs.kinds", Rows.laid_cartouche_offs_kinds)] w) (fun _ _ _ hh h => h.of_heap hh) own started (by kernel_rfl) Tryd.func4
    (ChangeSpec.witness_at (enc := enc) (C := Tryd.checked) (os := os) (X := fun w _ => laidMet Tryd.prog [("cartouche/offs.kinds", Rows.laid_cartouche_offs_kinds)] w) false (laidWorld os) #[zeroIns, .bool false] 8 rfl (by kernel_rfl) (by kernel_rfl) (by kernel_rfl) (by kernel_rfl) (by kernel_rfl) (laid_met _ (wit os))) ?_
  intro W base args ds gs before hval0 hW _ _ hL _
  have hval : ∀ (j : Nat) t v, Tryd.f4.params[j]? = some t → args[j]? = some v → Value.okWide Tryd.prog W .any base t v := hval0
  have hW' := hW
  obtain ⟨p, q, hA0, hV, rfl, hfz, hnd⟩ := hW
  have hA : DataW.TrodAll enc Tryd.prog W 0 (fun _ => true) true Tryd.f4.params.toList args.toList ds p := hA0
  rw [Tryd.params4] at hA hval
  obtain ⟨v0, v1, d0, d1, p0, p1, rfl, rfl, rfl, h0, h1⟩ := trodAll_two hA
  obtain ⟨rfl, rfl⟩ := trodVars_none hV
  obtain ⟨x, hx, rfl, rfl, again⟩ := open_insR (hval 0 23 v0 rfl rfl) h0
  obtain ⟨b, rfl, rfl, rfl⟩ := open_bool Tryd.underlying4 (hval 1 4 v1 rfl rfl) h1
  clear hA0 hval0
  simp only [List.append_nil] at hW'
  refine (walk hx b (laid_of hL)).mono fun e W' ⟨he, hg⟩ => ?_
  subst he
  exact ⟨_, rfl, post_of_same (pa := []) (pv := []) hW' (fun _ _ _ => trodAll_cons_mk (shut_bool Tryd.underlying4 _) trodAll_mk0)
    (fun _ _ => trodAll_mk2 (again _ _ _ _) (shut_bool Tryd.underlying4 _)) (fun _ _ => rfl) rfl
    (hg.frame _) hg.2.1 (ok_one (by kernel_rfl) rfl (okWide_bool_mk Tryd.underlying4 _))⟩

theorem joined : joinedFacts Tryd.prog 4 Tryd.f4 Rows.shortBackSpec Rows.shortBackRow = true := by
  unfold joinedFacts
  rw [pEnter, pLifts, pMake]
  kernel_rfl

theorem row : Rows.ShortBackSaid :=
  OpenClaim.holds_of_wide 4 Tryd.f4 rfl rfl rfl rfl rfl rfl rfl ⟨rfl, rfl, rfl, rfl, rfl⟩ rfl rfl rfl rfl rfl (by kernel_rfl) Tryd.func4 joined
    (of_decide_eq_true (by kernel_rfl)) (by unfold Func.isWrapper; first | (rw [if_pos (by decide +kernel)]; kernel_rfl) | (rw [if_neg (by decide +kernel)]; exact ⟨rfl, rfl⟩))
    (fun os started H enc _ => lifted os started H enc)

theorem goes0 : false = Rows.shortBackRow.goesBy Tryd.prog := by kernel_rfl

theorem named0 : Tryd.prog.funcNamed "cartouche/cartouchelaw10.ShortBack" = some 4 := by kernel_rfl

theorem wf0 : Rows.shortBackRow.wfByText (OpenSpec.ofChange Rows.shortBackSpec) = true := by kernel_rfl

theorem proved : Rows.ShortBackCardSaid :=
  Claim7.holds_tied_plain_at .later [] [.data] true (true, "da8a6907bc181bcdfc693d96b7f41634546629ab9b0d19580363a62b8d88c62b") false
    row (fun _ h => by cases h) wf0 (fun _ h => by cases h) shortBack_row_tie rfl ⟨rfl, rfl⟩ pMain rfl
    (fun f fn hf hfn => by
      obtain rfl : f = 4 := Option.some.inj (named0.symm.trans hf) |>.symm
      obtain rfl : fn = Tryd.f4 := (Option.some.inj (Tryd.func4.symm.trans hfn)).symm
      exact ⟨pLooks, fun j t ht => by
        rw [Tryd.params4] at ht
        have h3 : t = 23 ∨ t = 4 := by
          rcases j with _ | _ | j
          · exact Or.inl (by simpa using ht.symm)
          · exact Or.inr (by simpa using ht.symm)
          · simp at ht
        rcases h3 with rfl | rfl
        · exact (show Tryd.prog.wantsStandIn 23 = false by kernel_rfl)
        · exact (show Tryd.prog.wantsStandIn 4 = false by kernel_rfl)⟩)
    goes0

end Go.Proofs.YtaiecnepchndkaaDoor.shortBack
