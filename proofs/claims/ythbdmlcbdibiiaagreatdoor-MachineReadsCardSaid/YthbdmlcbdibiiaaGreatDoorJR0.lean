/- For the seat: texts joined: Enn, Env, EncO, Fin, RdsDef, Rds. -/
import Derived.Test.YthbdmlcbdibiiaaGreatDoorJN1
import Derived.Test.YthbdmlcbdibiiaaGreatDoorJN2
import Derived.Test.YthbdmlcbdibiiaaGreatDoorJN3
import Derived.Test.YthbdmlcbdibiiaaGreatDoorJF0
import Derived.Deep.RegionHeld3
import Derived.Laws.OwnMore
import Derived.Test.YthbdmlcbdibiiaaGreatDoorJL1x0
import Derived.Test.YthbdmlcbdibiiaaGreatDoorJL0x1
import Derived.ChangeMaps5
import Derived.Test.YthbdmlcbdibiiaaGreatDoorJL3x0
/- Enn: all cases of the input. -/
namespace Go.Proofs.YthbdmlcbdibiiaaGreatDoor.enn
open Go.Sx
set_option maxRecDepth 100000
theorem n1 : (Cb.casesN 1).length = 10 := by kernel_rfl
set_option maxRecDepth 100000 in
theorem g1 : ∀ j : Nat, j < (Cb.casesN 1).length → enc.nat 1 j = true := by
  intro j hj
  rw [n1] at hj
  by_cases h : j < 10
  · exact List.all_eq_true.1 w1x0 j (List.mem_range'_1.2 ⟨by omega, by omega⟩)
  omega
set_option maxRecDepth 100000 in
theorem n2 : (Cb.casesN 2).length = 10 := by kernel_rfl
set_option maxRecDepth 100000 in
theorem g2 : ∀ j : Nat, j < (Cb.casesN 2).length → enc.nat 2 j = true := by
  intro j hj
  rw [n2] at hj
  by_cases h : j < 10
  · exact List.all_eq_true.1 w2x0 j (List.mem_range'_1.2 ⟨by omega, by omega⟩)
  omega
set_option maxRecDepth 100000 in
theorem n3 : (Cb.casesN 3).length = 10 := by kernel_rfl
set_option maxRecDepth 100000 in
theorem g3 : ∀ j : Nat, j < (Cb.casesN 3).length → enc.nat 3 j = true := by
  intro j hj
  rw [n3] at hj
  by_cases h : j < 10
  · exact List.all_eq_true.1 w3x0 j (List.mem_range'_1.2 ⟨by omega, by omega⟩)
  omega
set_option maxRecDepth 100000 in
theorem n4 : (Cb.casesN 4).length = 10 := by kernel_rfl
set_option maxRecDepth 100000 in
theorem g4 : ∀ j : Nat, j < (Cb.casesN 4).length → enc.nat 4 j = true := by
  intro j hj
  rw [n4] at hj
  by_cases h : j < 10
  · exact List.all_eq_true.1 w4x0 j (List.mem_range'_1.2 ⟨by omega, by omega⟩)
  omega
set_option maxRecDepth 100000 in
theorem n5 : (Cb.casesN 5).length = 21 := by kernel_rfl
set_option maxRecDepth 100000 in
theorem g5 : ∀ j : Nat, j < (Cb.casesN 5).length → enc.nat 5 j = true := by
  intro j hj
  rw [n5] at hj
  by_cases h : j < 7
  · exact List.all_eq_true.1 w5x0 j (List.mem_range'_1.2 ⟨by omega, by omega⟩)
  by_cases h : j < 10
  · exact List.all_eq_true.1 w5x7 j (List.mem_range'_1.2 ⟨by omega, by omega⟩)
  by_cases h : j < 11
  · exact List.all_eq_true.1 w5x10 j (List.mem_range'_1.2 ⟨by omega, by omega⟩)
  by_cases h : j < 12
  · exact List.all_eq_true.1 w5x11 j (List.mem_range'_1.2 ⟨by omega, by omega⟩)
  by_cases h : j < 21
  · exact List.all_eq_true.1 w5x12 j (List.mem_range'_1.2 ⟨by omega, by omega⟩)
  omega
set_option maxRecDepth 100000 in
theorem n6 : (Cb.casesN 6).length = 10 := by kernel_rfl
set_option maxRecDepth 100000 in
theorem g6 : ∀ j : Nat, j < (Cb.casesN 6).length → enc.nat 6 j = true := by
  intro j hj
  rw [n6] at hj
  by_cases h : j < 10
  · exact List.all_eq_true.1 w6x0 j (List.mem_range'_1.2 ⟨by omega, by omega⟩)
  omega
set_option maxRecDepth 100000 in
theorem n7 : (Cb.casesN 7).length = 21 := by kernel_rfl
set_option maxRecDepth 100000 in
theorem g7 : ∀ j : Nat, j < (Cb.casesN 7).length → enc.nat 7 j = true := by
  intro j hj
  rw [n7] at hj
  by_cases h : j < 10
  · exact List.all_eq_true.1 w7x0 j (List.mem_range'_1.2 ⟨by omega, by omega⟩)
  by_cases h : j < 11
  · exact List.all_eq_true.1 w7x10 j (List.mem_range'_1.2 ⟨by omega, by omega⟩)
  by_cases h : j < 16
  · exact List.all_eq_true.1 w7x11 j (List.mem_range'_1.2 ⟨by omega, by omega⟩)
  by_cases h : j < 21
  · exact List.all_eq_true.1 w7x16 j (List.mem_range'_1.2 ⟨by omega, by omega⟩)
  omega
set_option maxRecDepth 100000 in
theorem n8 : (Cb.casesN 8).length = 10 := by kernel_rfl
set_option maxRecDepth 100000 in
theorem g8 : ∀ j : Nat, j < (Cb.casesN 8).length → enc.nat 8 j = true := by
  intro j hj
  rw [n8] at hj
  by_cases h : j < 10
  · exact List.all_eq_true.1 w8x0 j (List.mem_range'_1.2 ⟨by omega, by omega⟩)
  omega
set_option maxRecDepth 100000 in
theorem n9 : (Cb.casesN 9).length = 10 := by kernel_rfl
set_option maxRecDepth 100000 in
theorem g9 : ∀ j : Nat, j < (Cb.casesN 9).length → enc.nat 9 j = true := by
  intro j hj
  rw [n9] at hj
  by_cases h : j < 10
  · exact List.all_eq_true.1 w9x0 j (List.mem_range'_1.2 ⟨by omega, by omega⟩)
  omega
set_option maxRecDepth 100000 in
theorem n10 : (Cb.casesN 10).length = 13 := by kernel_rfl
set_option maxRecDepth 100000 in
theorem g10 : ∀ j : Nat, j < (Cb.casesN 10).length → enc.nat 10 j = true := by
  intro j hj
  rw [n10] at hj
  by_cases h : j < 13
  · exact List.all_eq_true.1 w10x0 j (List.mem_range'_1.2 ⟨by omega, by omega⟩)
  omega
set_option maxRecDepth 100000 in
theorem n11 : (Cb.casesN 11).length = 6 := by kernel_rfl
set_option maxRecDepth 100000 in
theorem g11 : ∀ j : Nat, j < (Cb.casesN 11).length → enc.nat 11 j = true := by
  intro j hj
  rw [n11] at hj
  by_cases h : j < 6
  · exact List.all_eq_true.1 w11x0 j (List.mem_range'_1.2 ⟨by omega, by omega⟩)
  omega
set_option maxRecDepth 100000 in
theorem n12 : (Cb.casesN 12).length = 9 := by kernel_rfl
set_option maxRecDepth 100000 in
theorem g12 : ∀ j : Nat, j < (Cb.casesN 12).length → enc.nat 12 j = true := by
  intro j hj
  rw [n12] at hj
  by_cases h : j < 9
  · exact List.all_eq_true.1 w12x0 j (List.mem_range'_1.2 ⟨by omega, by omega⟩)
  omega
set_option maxRecDepth 100000 in
theorem n13 : (Cb.casesN 13).length = 6 := by kernel_rfl
set_option maxRecDepth 100000 in
theorem g13 : ∀ j : Nat, j < (Cb.casesN 13).length → enc.nat 13 j = true := by
  intro j hj
  rw [n13] at hj
  by_cases h : j < 6
  · exact List.all_eq_true.1 w13x0 j (List.mem_range'_1.2 ⟨by omega, by omega⟩)
  omega
set_option maxRecDepth 100000 in
theorem n14 : (Cb.casesN 14).length = 6 := by kernel_rfl
set_option maxRecDepth 100000 in
theorem g14 : ∀ j : Nat, j < (Cb.casesN 14).length → enc.nat 14 j = true := by
  intro j hj
  rw [n14] at hj
  by_cases h : j < 6
  · exact List.all_eq_true.1 w14x0 j (List.mem_range'_1.2 ⟨by omega, by omega⟩)
  omega
set_option maxRecDepth 100000 in
theorem n15 : (Cb.casesN 15).length = 3 := by kernel_rfl
set_option maxRecDepth 100000 in
theorem g15 : ∀ j : Nat, j < (Cb.casesN 15).length → enc.nat 15 j = true := by
  intro j hj
  rw [n15] at hj
  by_cases h : j < 3
  · exact List.all_eq_true.1 w15x0 j (List.mem_range'_1.2 ⟨by omega, by omega⟩)
  omega
set_option maxRecDepth 100000 in
theorem n16 : (Cb.casesN 16).length = 13 := by kernel_rfl
set_option maxRecDepth 100000 in
theorem g16 : ∀ j : Nat, j < (Cb.casesN 16).length → enc.nat 16 j = true := by
  intro j hj
  rw [n16] at hj
  by_cases h : j < 13
  · exact List.all_eq_true.1 w16x0 j (List.mem_range'_1.2 ⟨by omega, by omega⟩)
  omega
set_option maxRecDepth 100000 in
theorem n17 : (Cb.casesN 17).length = 17 := by kernel_rfl
set_option maxRecDepth 100000 in
theorem g17 : ∀ j : Nat, j < (Cb.casesN 17).length → enc.nat 17 j = true := by
  intro j hj
  rw [n17] at hj
  by_cases h : j < 14
  · exact List.all_eq_true.1 w17x0 j (List.mem_range'_1.2 ⟨by omega, by omega⟩)
  by_cases h : j < 17
  · exact List.all_eq_true.1 w17x14 j (List.mem_range'_1.2 ⟨by omega, by omega⟩)
  omega
set_option maxRecDepth 100000 in
theorem n18 : (Cb.casesN 18).length = 17 := by kernel_rfl
set_option maxRecDepth 100000 in
theorem g18 : ∀ j : Nat, j < (Cb.casesN 18).length → enc.nat 18 j = true := by
  intro j hj
  rw [n18] at hj
  by_cases h : j < 14
  · exact List.all_eq_true.1 w18x0 j (List.mem_range'_1.2 ⟨by omega, by omega⟩)
  by_cases h : j < 17
  · exact List.all_eq_true.1 w18x14 j (List.mem_range'_1.2 ⟨by omega, by omega⟩)
  omega
set_option maxRecDepth 100000 in
theorem n19 : (Cb.casesN 19).length = 10 := by kernel_rfl
set_option maxRecDepth 100000 in
theorem g19 : ∀ j : Nat, j < (Cb.casesN 19).length → enc.nat 19 j = true := by
  intro j hj
  rw [n19] at hj
  by_cases h : j < 10
  · exact List.all_eq_true.1 w19x0 j (List.mem_range'_1.2 ⟨by omega, by omega⟩)
  omega
set_option maxRecDepth 100000 in
theorem n20 : (Cb.casesN 20).length = 9 := by kernel_rfl
set_option maxRecDepth 100000 in
theorem g20 : ∀ j : Nat, j < (Cb.casesN 20).length → enc.nat 20 j = true := by
  intro j hj
  rw [n20] at hj
  by_cases h : j < 9
  · exact List.all_eq_true.1 w20x0 j (List.mem_range'_1.2 ⟨by omega, by omega⟩)
  omega
set_option maxRecDepth 100000 in
theorem n21 : (Cb.casesN 21).length = 2 := by kernel_rfl
set_option maxRecDepth 100000 in
theorem g21 : ∀ j : Nat, j < (Cb.casesN 21).length → enc.nat 21 j = true := by
  intro j hj
  rw [n21] at hj
  by_cases h : j < 2
  · exact List.all_eq_true.1 w21x0 j (List.mem_range'_1.2 ⟨by omega, by omega⟩)
  omega
set_option maxRecDepth 100000 in
theorem n22 : (Cb.casesN 22).length = 2 := by kernel_rfl
set_option maxRecDepth 100000 in
theorem g22 : ∀ j : Nat, j < (Cb.casesN 22).length → enc.nat 22 j = true := by
  intro j hj
  rw [n22] at hj
  by_cases h : j < 2
  · exact List.all_eq_true.1 w22x0 j (List.mem_range'_1.2 ⟨by omega, by omega⟩)
  omega
set_option maxRecDepth 100000 in
theorem n23 : (Cb.casesN 23).length = 2 := by kernel_rfl
set_option maxRecDepth 100000 in
theorem g23 : ∀ j : Nat, j < (Cb.casesN 23).length → enc.nat 23 j = true := by
  intro j hj
  rw [n23] at hj
  by_cases h : j < 2
  · exact List.all_eq_true.1 w23x0 j (List.mem_range'_1.2 ⟨by omega, by omega⟩)
  omega
set_option maxRecDepth 100000 in
theorem n24 : (Cb.casesN 24).length = 2 := by kernel_rfl
set_option maxRecDepth 100000 in
theorem g24 : ∀ j : Nat, j < (Cb.casesN 24).length → enc.nat 24 j = true := by
  intro j hj
  rw [n24] at hj
  by_cases h : j < 2
  · exact List.all_eq_true.1 w24x0 j (List.mem_range'_1.2 ⟨by omega, by omega⟩)
  omega
set_option maxRecDepth 100000 in
theorem n25 : (Cb.casesN 25).length = 22 := by kernel_rfl
set_option maxRecDepth 100000 in
theorem g25 : ∀ j : Nat, j < (Cb.casesN 25).length → enc.nat 25 j = true := by
  intro j hj
  rw [n25] at hj
  by_cases h : j < 13
  · exact List.all_eq_true.1 w25x0 j (List.mem_range'_1.2 ⟨by omega, by omega⟩)
  by_cases h : j < 22
  · exact List.all_eq_true.1 w25x13 j (List.mem_range'_1.2 ⟨by omega, by omega⟩)
  omega
set_option maxRecDepth 100000 in
theorem n26 : (Cb.casesN 26).length = 19 := by kernel_rfl
set_option maxRecDepth 100000 in
theorem g26 : ∀ j : Nat, j < (Cb.casesN 26).length → enc.nat 26 j = true := by
  intro j hj
  rw [n26] at hj
  by_cases h : j < 10
  · exact List.all_eq_true.1 w26x0 j (List.mem_range'_1.2 ⟨by omega, by omega⟩)
  by_cases h : j < 16
  · exact List.all_eq_true.1 w26x10 j (List.mem_range'_1.2 ⟨by omega, by omega⟩)
  by_cases h : j < 19
  · exact List.all_eq_true.1 w26x16 j (List.mem_range'_1.2 ⟨by omega, by omega⟩)
  omega
set_option maxRecDepth 100000 in
theorem n27 : (Cb.casesN 27).length = 20 := by kernel_rfl
set_option maxRecDepth 100000 in
theorem g27 : ∀ j : Nat, j < (Cb.casesN 27).length → enc.nat 27 j = true := by
  intro j hj
  rw [n27] at hj
  by_cases h : j < 10
  · exact List.all_eq_true.1 w27x0 j (List.mem_range'_1.2 ⟨by omega, by omega⟩)
  by_cases h : j < 16
  · exact List.all_eq_true.1 w27x10 j (List.mem_range'_1.2 ⟨by omega, by omega⟩)
  by_cases h : j < 20
  · exact List.all_eq_true.1 w27x16 j (List.mem_range'_1.2 ⟨by omega, by omega⟩)
  omega
set_option maxRecDepth 100000 in
theorem n28 : (Cb.casesN 28).length = 22 := by kernel_rfl
set_option maxRecDepth 100000 in
theorem g28 : ∀ j : Nat, j < (Cb.casesN 28).length → enc.nat 28 j = true := by
  intro j hj
  rw [n28] at hj
  by_cases h : j < 10
  · exact List.all_eq_true.1 w28x0 j (List.mem_range'_1.2 ⟨by omega, by omega⟩)
  by_cases h : j < 21
  · exact List.all_eq_true.1 w28x10 j (List.mem_range'_1.2 ⟨by omega, by omega⟩)
  by_cases h : j < 22
  · exact List.all_eq_true.1 w28x21 j (List.mem_range'_1.2 ⟨by omega, by omega⟩)
  omega
set_option maxRecDepth 100000 in
theorem n29 : (Cb.casesN 29).length = 19 := by kernel_rfl
set_option maxRecDepth 100000 in
theorem g29 : ∀ j : Nat, j < (Cb.casesN 29).length → enc.nat 29 j = true := by
  intro j hj
  rw [n29] at hj
  by_cases h : j < 10
  · exact List.all_eq_true.1 w29x0 j (List.mem_range'_1.2 ⟨by omega, by omega⟩)
  by_cases h : j < 19
  · exact List.all_eq_true.1 w29x10 j (List.mem_range'_1.2 ⟨by omega, by omega⟩)
  omega
set_option maxRecDepth 100000 in
theorem n30 : (Cb.casesN 30).length = 20 := by kernel_rfl
set_option maxRecDepth 100000 in
theorem g30 : ∀ j : Nat, j < (Cb.casesN 30).length → enc.nat 30 j = true := by
  intro j hj
  rw [n30] at hj
  by_cases h : j < 12
  · exact List.all_eq_true.1 w30x0 j (List.mem_range'_1.2 ⟨by omega, by omega⟩)
  by_cases h : j < 20
  · exact List.all_eq_true.1 w30x12 j (List.mem_range'_1.2 ⟨by omega, by omega⟩)
  omega
set_option maxRecDepth 100000 in
theorem n31 : (Cb.casesN 31).length = 5 := by kernel_rfl
set_option maxRecDepth 100000 in
theorem g31 : ∀ j : Nat, j < (Cb.casesN 31).length → enc.nat 31 j = true := by
  intro j hj
  rw [n31] at hj
  by_cases h : j < 1
  · exact List.all_eq_true.1 w31x0 j (List.mem_range'_1.2 ⟨by omega, by omega⟩)
  by_cases h : j < 2
  · exact List.all_eq_true.1 w31x1 j (List.mem_range'_1.2 ⟨by omega, by omega⟩)
  by_cases h : j < 4
  · exact List.all_eq_true.1 w31x2 j (List.mem_range'_1.2 ⟨by omega, by omega⟩)
  by_cases h : j < 5
  · exact List.all_eq_true.1 w31x4 j (List.mem_range'_1.2 ⟨by omega, by omega⟩)
  omega
set_option maxRecDepth 100000 in
theorem n32 : (Cb.casesN 32).length = 5 := by kernel_rfl
set_option maxRecDepth 100000 in
theorem g32 : ∀ j : Nat, j < (Cb.casesN 32).length → enc.nat 32 j = true := by
  intro j hj
  rw [n32] at hj
  by_cases h : j < 1
  · exact List.all_eq_true.1 w32x0 j (List.mem_range'_1.2 ⟨by omega, by omega⟩)
  by_cases h : j < 2
  · exact List.all_eq_true.1 w32x1 j (List.mem_range'_1.2 ⟨by omega, by omega⟩)
  by_cases h : j < 4
  · exact List.all_eq_true.1 w32x2 j (List.mem_range'_1.2 ⟨by omega, by omega⟩)
  by_cases h : j < 5
  · exact List.all_eq_true.1 w32x4 j (List.mem_range'_1.2 ⟨by omega, by omega⟩)
  omega
set_option maxRecDepth 100000 in
theorem n33 : (Cb.casesN 33).length = 3 := by kernel_rfl
set_option maxRecDepth 100000 in
theorem g33 : ∀ j : Nat, j < (Cb.casesN 33).length → enc.nat 33 j = true := by
  intro j hj
  rw [n33] at hj
  by_cases h : j < 3
  · exact List.all_eq_true.1 w33x0 j (List.mem_range'_1.2 ⟨by omega, by omega⟩)
  omega
set_option maxRecDepth 100000 in
theorem n34 : (Cb.casesN 34).length = 3 := by kernel_rfl
set_option maxRecDepth 100000 in
theorem g34 : ∀ j : Nat, j < (Cb.casesN 34).length → enc.nat 34 j = true := by
  intro j hj
  rw [n34] at hj
  by_cases h : j < 3
  · exact List.all_eq_true.1 w34x0 j (List.mem_range'_1.2 ⟨by omega, by omega⟩)
  omega
set_option maxRecDepth 100000 in
theorem n35 : (Cb.casesN 35).length = 7 := by kernel_rfl
set_option maxRecDepth 100000 in
theorem g35 : ∀ j : Nat, j < (Cb.casesN 35).length → enc.nat 35 j = true := by
  intro j hj
  rw [n35] at hj
  by_cases h : j < 7
  · exact List.all_eq_true.1 w35x0 j (List.mem_range'_1.2 ⟨by omega, by omega⟩)
  omega
set_option maxRecDepth 100000 in
theorem n36 : (Cb.casesN 36).length = 2 := by kernel_rfl
set_option maxRecDepth 100000 in
theorem g36 : ∀ j : Nat, j < (Cb.casesN 36).length → enc.nat 36 j = true := by
  intro j hj
  rw [n36] at hj
  by_cases h : j < 2
  · exact List.all_eq_true.1 w36x0 j (List.mem_range'_1.2 ⟨by omega, by omega⟩)
  omega
set_option maxRecDepth 100000 in
theorem n37 : (Cb.casesN 37).length = 2 := by kernel_rfl
set_option maxRecDepth 100000 in
theorem g37 : ∀ j : Nat, j < (Cb.casesN 37).length → enc.nat 37 j = true := by
  intro j hj
  rw [n37] at hj
  by_cases h : j < 2
  · exact List.all_eq_true.1 w37x0 j (List.mem_range'_1.2 ⟨by omega, by omega⟩)
  omega
set_option maxRecDepth 100000 in
theorem n38 : (Cb.casesN 38).length = 2 := by kernel_rfl
set_option maxRecDepth 100000 in
theorem g38 : ∀ j : Nat, j < (Cb.casesN 38).length → enc.nat 38 j = true := by
  intro j hj
  rw [n38] at hj
  by_cases h : j < 2
  · exact List.all_eq_true.1 w38x0 j (List.mem_range'_1.2 ⟨by omega, by omega⟩)
  omega
set_option maxRecDepth 100000 in
theorem n39 : (Cb.casesN 39).length = 2 := by kernel_rfl
set_option maxRecDepth 100000 in
theorem g39 : ∀ j : Nat, j < (Cb.casesN 39).length → enc.nat 39 j = true := by
  intro j hj
  rw [n39] at hj
  by_cases h : j < 2
  · exact List.all_eq_true.1 w39x0 j (List.mem_range'_1.2 ⟨by omega, by omega⟩)
  omega
set_option maxRecDepth 100000 in
theorem n40 : (Cb.casesN 40).length = 9 := by kernel_rfl
set_option maxRecDepth 100000 in
theorem g40 : ∀ j : Nat, j < (Cb.casesN 40).length → enc.nat 40 j = true := by
  intro j hj
  rw [n40] at hj
  by_cases h : j < 9
  · exact List.all_eq_true.1 w40x0 j (List.mem_range'_1.2 ⟨by omega, by omega⟩)
  omega
set_option maxRecDepth 100000 in
theorem n41 : (Cb.casesN 41).length = 9 := by kernel_rfl
set_option maxRecDepth 100000 in
theorem g41 : ∀ j : Nat, j < (Cb.casesN 41).length → enc.nat 41 j = true := by
  intro j hj
  rw [n41] at hj
  by_cases h : j < 9
  · exact List.all_eq_true.1 w41x0 j (List.mem_range'_1.2 ⟨by omega, by omega⟩)
  omega
set_option maxRecDepth 100000 in
theorem n42 : (Cb.casesN 42).length = 2 := by kernel_rfl
set_option maxRecDepth 100000 in
theorem g42 : ∀ j : Nat, j < (Cb.casesN 42).length → enc.nat 42 j = true := by
  intro j hj
  rw [n42] at hj
  by_cases h : j < 2
  · exact List.all_eq_true.1 w42x0 j (List.mem_range'_1.2 ⟨by omega, by omega⟩)
  omega
set_option maxRecDepth 100000 in
theorem n43 : (Cb.casesN 43).length = 2 := by kernel_rfl
set_option maxRecDepth 100000 in
theorem g43 : ∀ j : Nat, j < (Cb.casesN 43).length → enc.nat 43 j = true := by
  intro j hj
  rw [n43] at hj
  by_cases h : j < 2
  · exact List.all_eq_true.1 w43x0 j (List.mem_range'_1.2 ⟨by omega, by omega⟩)
  omega
set_option maxRecDepth 100000 in
theorem n44 : (Cb.casesN 44).length = 2 := by kernel_rfl
set_option maxRecDepth 100000 in
theorem g44 : ∀ j : Nat, j < (Cb.casesN 44).length → enc.nat 44 j = true := by
  intro j hj
  rw [n44] at hj
  by_cases h : j < 2
  · exact List.all_eq_true.1 w44x0 j (List.mem_range'_1.2 ⟨by omega, by omega⟩)
  omega
set_option maxRecDepth 100000 in
theorem n45 : (Cb.casesN 45).length = 2 := by kernel_rfl
set_option maxRecDepth 100000 in
theorem g45 : ∀ j : Nat, j < (Cb.casesN 45).length → enc.nat 45 j = true := by
  intro j hj
  rw [n45] at hj
  by_cases h : j < 2
  · exact List.all_eq_true.1 w45x0 j (List.mem_range'_1.2 ⟨by omega, by omega⟩)
  omega
set_option maxRecDepth 100000 in
theorem all : ∀ k : Nat, 1 ≤ k → k ≤ 45 → ∀ j : Nat, j < (Cb.casesN k).length → enc.nat k j = true := by
  intro k h h'
  match k, h, h' with
  | 1, _, _ => exact g1
  | 2, _, _ => exact g2
  | 3, _, _ => exact g3
  | 4, _, _ => exact g4
  | 5, _, _ => exact g5
  | 6, _, _ => exact g6
  | 7, _, _ => exact g7
  | 8, _, _ => exact g8
  | 9, _, _ => exact g9
  | 10, _, _ => exact g10
  | 11, _, _ => exact g11
  | 12, _, _ => exact g12
  | 13, _, _ => exact g13
  | 14, _, _ => exact g14
  | 15, _, _ => exact g15
  | 16, _, _ => exact g16
  | 17, _, _ => exact g17
  | 18, _, _ => exact g18
  | 19, _, _ => exact g19
  | 20, _, _ => exact g20
  | 21, _, _ => exact g21
  | 22, _, _ => exact g22
  | 23, _, _ => exact g23
  | 24, _, _ => exact g24
  | 25, _, _ => exact g25
  | 26, _, _ => exact g26
  | 27, _, _ => exact g27
  | 28, _, _ => exact g28
  | 29, _, _ => exact g29
  | 30, _, _ => exact g30
  | 31, _, _ => exact g31
  | 32, _, _ => exact g32
  | 33, _, _ => exact g33
  | 34, _, _ => exact g34
  | 35, _, _ => exact g35
  | 36, _, _ => exact g36
  | 37, _, _ => exact g37
  | 38, _, _ => exact g38
  | 39, _, _ => exact g39
  | 40, _, _ => exact g40
  | 41, _, _ => exact g41
  | 42, _, _ => exact g42
  | 43, _, _ => exact g43
  | 44, _, _ => exact g44
  | 45, _, _ => exact g45
  | n + 46, _, h' => omega
set_option maxRecDepth 100000 in
theorem cov : ∀ k : Nat, 1 ≤ k → k ≤ 45 → apt.covN k = true := by
  intro k h h'
  match k, h, h' with
  | 1, _, _ => exact c1
  | 2, _, _ => exact c2
  | 3, _, _ => exact c3
  | 4, _, _ => exact c4
  | 5, _, _ => exact c5
  | 6, _, _ => exact c6
  | 7, _, _ => exact c7
  | 8, _, _ => exact c8
  | 9, _, _ => exact c9
  | 10, _, _ => exact c10
  | 11, _, _ => exact c11
  | 12, _, _ => exact c12
  | 13, _, _ => exact c13
  | 14, _, _ => exact c14
  | 15, _, _ => exact c15
  | 16, _, _ => exact c16
  | 17, _, _ => exact c17
  | 18, _, _ => exact c18
  | 19, _, _ => exact c19
  | 20, _, _ => exact c20
  | 21, _, _ => exact c21
  | 22, _, _ => exact c22
  | 23, _, _ => exact c23
  | 24, _, _ => exact c24
  | 25, _, _ => exact c25
  | 26, _, _ => exact c26
  | 27, _, _ => exact c27
  | 28, _, _ => exact c28
  | 29, _, _ => exact c29
  | 30, _, _ => exact c30
  | 31, _, _ => exact c31
  | 32, _, _ => exact c32
  | 33, _, _ => exact c33
  | 34, _, _ => exact c34
  | 35, _, _ => exact c35
  | 36, _, _ => exact c36
  | 37, _, _ => exact c37
  | 38, _, _ => exact c38
  | 39, _, _ => exact c39
  | 40, _, _ => exact c40
  | 41, _, _ => exact c41
  | 42, _, _ => exact c42
  | 43, _, _ => exact c43
  | 44, _, _ => exact c44
  | 45, _, _ => exact c45
  | n + 46, _, h' => omega
set_option maxRecDepth 100000 in
theorem ex {x : Fields} (hx : x.Ok) (it : Bool) : ∃ p, EncX enc.exShort 51 103 1 x it p := xxN encS_ok encS_body hx it lo hi cov all
end Go.Proofs.YthbdmlcbdibiiaaGreatDoor.enn
/- Env: all cases of the input. -/
namespace Go.Proofs.YthbdmlcbdibiiaaGreatDoor.env
open Go.Sx
set_option maxRecDepth 100000
theorem n1 : (apt.casesV 1).length = 4 := by kernel_rfl
set_option maxRecDepth 100000 in
theorem g1 : ∀ j : Nat, j < (apt.casesV 1).length → enc.vat 1 j = true := by
  intro j hj
  rw [n1] at hj
  by_cases h : j < 1
  · exact List.all_eq_true.1 w1x0 j (List.mem_range'_1.2 ⟨by omega, by omega⟩)
  by_cases h : j < 2
  · exact List.all_eq_true.1 w1x1 j (List.mem_range'_1.2 ⟨by omega, by omega⟩)
  by_cases h : j < 3
  · exact List.all_eq_true.1 w1x2 j (List.mem_range'_1.2 ⟨by omega, by omega⟩)
  by_cases h : j < 4
  · exact List.all_eq_true.1 w1x3 j (List.mem_range'_1.2 ⟨by omega, by omega⟩)
  omega
set_option maxRecDepth 100000 in
theorem n2 : (apt.casesV 2).length = 4 := by kernel_rfl
set_option maxRecDepth 100000 in
theorem g2 : ∀ j : Nat, j < (apt.casesV 2).length → enc.vat 2 j = true := by
  intro j hj
  rw [n2] at hj
  by_cases h : j < 1
  · exact List.all_eq_true.1 w2x0 j (List.mem_range'_1.2 ⟨by omega, by omega⟩)
  by_cases h : j < 2
  · exact List.all_eq_true.1 w2x1 j (List.mem_range'_1.2 ⟨by omega, by omega⟩)
  by_cases h : j < 3
  · exact List.all_eq_true.1 w2x2 j (List.mem_range'_1.2 ⟨by omega, by omega⟩)
  by_cases h : j < 4
  · exact List.all_eq_true.1 w2x3 j (List.mem_range'_1.2 ⟨by omega, by omega⟩)
  omega
set_option maxRecDepth 100000 in
theorem n3 : (apt.casesV 3).length = 4 := by kernel_rfl
set_option maxRecDepth 100000 in
theorem g3 : ∀ j : Nat, j < (apt.casesV 3).length → enc.vat 3 j = true := by
  intro j hj
  rw [n3] at hj
  by_cases h : j < 1
  · exact List.all_eq_true.1 w3x0 j (List.mem_range'_1.2 ⟨by omega, by omega⟩)
  by_cases h : j < 2
  · exact List.all_eq_true.1 w3x1 j (List.mem_range'_1.2 ⟨by omega, by omega⟩)
  by_cases h : j < 3
  · exact List.all_eq_true.1 w3x2 j (List.mem_range'_1.2 ⟨by omega, by omega⟩)
  by_cases h : j < 4
  · exact List.all_eq_true.1 w3x3 j (List.mem_range'_1.2 ⟨by omega, by omega⟩)
  omega
set_option maxRecDepth 100000 in
theorem n4 : (apt.casesV 4).length = 4 := by kernel_rfl
set_option maxRecDepth 100000 in
theorem g4 : ∀ j : Nat, j < (apt.casesV 4).length → enc.vat 4 j = true := by
  intro j hj
  rw [n4] at hj
  by_cases h : j < 1
  · exact List.all_eq_true.1 w4x0 j (List.mem_range'_1.2 ⟨by omega, by omega⟩)
  by_cases h : j < 2
  · exact List.all_eq_true.1 w4x1 j (List.mem_range'_1.2 ⟨by omega, by omega⟩)
  by_cases h : j < 3
  · exact List.all_eq_true.1 w4x2 j (List.mem_range'_1.2 ⟨by omega, by omega⟩)
  by_cases h : j < 4
  · exact List.all_eq_true.1 w4x3 j (List.mem_range'_1.2 ⟨by omega, by omega⟩)
  omega
set_option maxRecDepth 100000 in
theorem n5 : (apt.casesV 5).length = 7 := by kernel_rfl
set_option maxRecDepth 100000 in
theorem g5 : ∀ j : Nat, j < (apt.casesV 5).length → enc.vat 5 j = true := by
  intro j hj
  rw [n5] at hj
  by_cases h : j < 1
  · exact List.all_eq_true.1 w5x0 j (List.mem_range'_1.2 ⟨by omega, by omega⟩)
  by_cases h : j < 2
  · exact List.all_eq_true.1 w5x1 j (List.mem_range'_1.2 ⟨by omega, by omega⟩)
  by_cases h : j < 6
  · exact List.all_eq_true.1 w5x2 j (List.mem_range'_1.2 ⟨by omega, by omega⟩)
  by_cases h : j < 7
  · exact List.all_eq_true.1 w5x6 j (List.mem_range'_1.2 ⟨by omega, by omega⟩)
  omega
set_option maxRecDepth 100000 in
theorem n6 : (apt.casesV 6).length = 4 := by kernel_rfl
set_option maxRecDepth 100000 in
theorem g6 : ∀ j : Nat, j < (apt.casesV 6).length → enc.vat 6 j = true := by
  intro j hj
  rw [n6] at hj
  by_cases h : j < 1
  · exact List.all_eq_true.1 w6x0 j (List.mem_range'_1.2 ⟨by omega, by omega⟩)
  by_cases h : j < 2
  · exact List.all_eq_true.1 w6x1 j (List.mem_range'_1.2 ⟨by omega, by omega⟩)
  by_cases h : j < 3
  · exact List.all_eq_true.1 w6x2 j (List.mem_range'_1.2 ⟨by omega, by omega⟩)
  by_cases h : j < 4
  · exact List.all_eq_true.1 w6x3 j (List.mem_range'_1.2 ⟨by omega, by omega⟩)
  omega
set_option maxRecDepth 100000 in
theorem n7 : (apt.casesV 7).length = 7 := by kernel_rfl
set_option maxRecDepth 100000 in
theorem g7 : ∀ j : Nat, j < (apt.casesV 7).length → enc.vat 7 j = true := by
  intro j hj
  rw [n7] at hj
  by_cases h : j < 1
  · exact List.all_eq_true.1 w7x0 j (List.mem_range'_1.2 ⟨by omega, by omega⟩)
  by_cases h : j < 2
  · exact List.all_eq_true.1 w7x1 j (List.mem_range'_1.2 ⟨by omega, by omega⟩)
  by_cases h : j < 6
  · exact List.all_eq_true.1 w7x2 j (List.mem_range'_1.2 ⟨by omega, by omega⟩)
  by_cases h : j < 7
  · exact List.all_eq_true.1 w7x6 j (List.mem_range'_1.2 ⟨by omega, by omega⟩)
  omega
set_option maxRecDepth 100000 in
theorem n8 : (apt.casesV 8).length = 4 := by kernel_rfl
set_option maxRecDepth 100000 in
theorem g8 : ∀ j : Nat, j < (apt.casesV 8).length → enc.vat 8 j = true := by
  intro j hj
  rw [n8] at hj
  by_cases h : j < 1
  · exact List.all_eq_true.1 w8x0 j (List.mem_range'_1.2 ⟨by omega, by omega⟩)
  by_cases h : j < 2
  · exact List.all_eq_true.1 w8x1 j (List.mem_range'_1.2 ⟨by omega, by omega⟩)
  by_cases h : j < 3
  · exact List.all_eq_true.1 w8x2 j (List.mem_range'_1.2 ⟨by omega, by omega⟩)
  by_cases h : j < 4
  · exact List.all_eq_true.1 w8x3 j (List.mem_range'_1.2 ⟨by omega, by omega⟩)
  omega
set_option maxRecDepth 100000 in
theorem n9 : (apt.casesV 9).length = 4 := by kernel_rfl
set_option maxRecDepth 100000 in
theorem g9 : ∀ j : Nat, j < (apt.casesV 9).length → enc.vat 9 j = true := by
  intro j hj
  rw [n9] at hj
  by_cases h : j < 1
  · exact List.all_eq_true.1 w9x0 j (List.mem_range'_1.2 ⟨by omega, by omega⟩)
  by_cases h : j < 2
  · exact List.all_eq_true.1 w9x1 j (List.mem_range'_1.2 ⟨by omega, by omega⟩)
  by_cases h : j < 3
  · exact List.all_eq_true.1 w9x2 j (List.mem_range'_1.2 ⟨by omega, by omega⟩)
  by_cases h : j < 4
  · exact List.all_eq_true.1 w9x3 j (List.mem_range'_1.2 ⟨by omega, by omega⟩)
  omega
set_option maxRecDepth 100000 in
theorem n10 : (apt.casesV 10).length = 4 := by kernel_rfl
set_option maxRecDepth 100000 in
theorem g10 : ∀ j : Nat, j < (apt.casesV 10).length → enc.vat 10 j = true := by
  intro j hj
  rw [n10] at hj
  by_cases h : j < 3
  · exact List.all_eq_true.1 w10x0 j (List.mem_range'_1.2 ⟨by omega, by omega⟩)
  by_cases h : j < 4
  · exact List.all_eq_true.1 w10x3 j (List.mem_range'_1.2 ⟨by omega, by omega⟩)
  omega
set_option maxRecDepth 100000 in
theorem n11 : (apt.casesV 11).length = 4 := by kernel_rfl
set_option maxRecDepth 100000 in
theorem g11 : ∀ j : Nat, j < (apt.casesV 11).length → enc.vat 11 j = true := by
  intro j hj
  rw [n11] at hj
  by_cases h : j < 3
  · exact List.all_eq_true.1 w11x0 j (List.mem_range'_1.2 ⟨by omega, by omega⟩)
  by_cases h : j < 4
  · exact List.all_eq_true.1 w11x3 j (List.mem_range'_1.2 ⟨by omega, by omega⟩)
  omega
set_option maxRecDepth 100000 in
theorem n12 : (apt.casesV 12).length = 4 := by kernel_rfl
set_option maxRecDepth 100000 in
theorem g12 : ∀ j : Nat, j < (apt.casesV 12).length → enc.vat 12 j = true := by
  intro j hj
  rw [n12] at hj
  by_cases h : j < 4
  · exact List.all_eq_true.1 w12x0 j (List.mem_range'_1.2 ⟨by omega, by omega⟩)
  omega
set_option maxRecDepth 100000 in
theorem n13 : (apt.casesV 13).length = 4 := by kernel_rfl
set_option maxRecDepth 100000 in
theorem g13 : ∀ j : Nat, j < (apt.casesV 13).length → enc.vat 13 j = true := by
  intro j hj
  rw [n13] at hj
  by_cases h : j < 4
  · exact List.all_eq_true.1 w13x0 j (List.mem_range'_1.2 ⟨by omega, by omega⟩)
  omega
set_option maxRecDepth 100000 in
theorem n14 : (apt.casesV 14).length = 4 := by kernel_rfl
set_option maxRecDepth 100000 in
theorem g14 : ∀ j : Nat, j < (apt.casesV 14).length → enc.vat 14 j = true := by
  intro j hj
  rw [n14] at hj
  by_cases h : j < 4
  · exact List.all_eq_true.1 w14x0 j (List.mem_range'_1.2 ⟨by omega, by omega⟩)
  omega
set_option maxRecDepth 100000 in
theorem n15 : (apt.casesV 15).length = 4 := by kernel_rfl
set_option maxRecDepth 100000 in
theorem g15 : ∀ j : Nat, j < (apt.casesV 15).length → enc.vat 15 j = true := by
  intro j hj
  rw [n15] at hj
  by_cases h : j < 4
  · exact List.all_eq_true.1 w15x0 j (List.mem_range'_1.2 ⟨by omega, by omega⟩)
  omega
set_option maxRecDepth 100000 in
theorem n16 : (apt.casesV 16).length = 3 := by kernel_rfl
set_option maxRecDepth 100000 in
theorem g16 : ∀ j : Nat, j < (apt.casesV 16).length → enc.vat 16 j = true := by
  intro j hj
  rw [n16] at hj
  by_cases h : j < 2
  · exact List.all_eq_true.1 w16x0 j (List.mem_range'_1.2 ⟨by omega, by omega⟩)
  by_cases h : j < 3
  · exact List.all_eq_true.1 w16x2 j (List.mem_range'_1.2 ⟨by omega, by omega⟩)
  omega
set_option maxRecDepth 100000 in
theorem n17 : (apt.casesV 17).length = 4 := by kernel_rfl
set_option maxRecDepth 100000 in
theorem g17 : ∀ j : Nat, j < (apt.casesV 17).length → enc.vat 17 j = true := by
  intro j hj
  rw [n17] at hj
  by_cases h : j < 2
  · exact List.all_eq_true.1 w17x0 j (List.mem_range'_1.2 ⟨by omega, by omega⟩)
  by_cases h : j < 3
  · exact List.all_eq_true.1 w17x2 j (List.mem_range'_1.2 ⟨by omega, by omega⟩)
  by_cases h : j < 4
  · exact List.all_eq_true.1 w17x3 j (List.mem_range'_1.2 ⟨by omega, by omega⟩)
  omega
set_option maxRecDepth 100000 in
theorem n18 : (apt.casesV 18).length = 4 := by kernel_rfl
set_option maxRecDepth 100000 in
theorem g18 : ∀ j : Nat, j < (apt.casesV 18).length → enc.vat 18 j = true := by
  intro j hj
  rw [n18] at hj
  by_cases h : j < 1
  · exact List.all_eq_true.1 w18x0 j (List.mem_range'_1.2 ⟨by omega, by omega⟩)
  by_cases h : j < 2
  · exact List.all_eq_true.1 w18x1 j (List.mem_range'_1.2 ⟨by omega, by omega⟩)
  by_cases h : j < 3
  · exact List.all_eq_true.1 w18x2 j (List.mem_range'_1.2 ⟨by omega, by omega⟩)
  by_cases h : j < 4
  · exact List.all_eq_true.1 w18x3 j (List.mem_range'_1.2 ⟨by omega, by omega⟩)
  omega
set_option maxRecDepth 100000 in
theorem n19 : (apt.casesV 19).length = 3 := by kernel_rfl
set_option maxRecDepth 100000 in
theorem g19 : ∀ j : Nat, j < (apt.casesV 19).length → enc.vat 19 j = true := by
  intro j hj
  rw [n19] at hj
  by_cases h : j < 1
  · exact List.all_eq_true.1 w19x0 j (List.mem_range'_1.2 ⟨by omega, by omega⟩)
  by_cases h : j < 2
  · exact List.all_eq_true.1 w19x1 j (List.mem_range'_1.2 ⟨by omega, by omega⟩)
  by_cases h : j < 3
  · exact List.all_eq_true.1 w19x2 j (List.mem_range'_1.2 ⟨by omega, by omega⟩)
  omega
set_option maxRecDepth 100000 in
theorem n20 : (apt.casesV 20).length = 2 := by kernel_rfl
set_option maxRecDepth 100000 in
theorem g20 : ∀ j : Nat, j < (apt.casesV 20).length → enc.vat 20 j = true := by
  intro j hj
  rw [n20] at hj
  by_cases h : j < 2
  · exact List.all_eq_true.1 w20x0 j (List.mem_range'_1.2 ⟨by omega, by omega⟩)
  omega
set_option maxRecDepth 100000 in
theorem n21 : (apt.casesV 21).length = 2 := by kernel_rfl
set_option maxRecDepth 100000 in
theorem g21 : ∀ j : Nat, j < (apt.casesV 21).length → enc.vat 21 j = true := by
  intro j hj
  rw [n21] at hj
  by_cases h : j < 2
  · exact List.all_eq_true.1 w21x0 j (List.mem_range'_1.2 ⟨by omega, by omega⟩)
  omega
set_option maxRecDepth 100000 in
theorem n22 : (apt.casesV 22).length = 2 := by kernel_rfl
set_option maxRecDepth 100000 in
theorem g22 : ∀ j : Nat, j < (apt.casesV 22).length → enc.vat 22 j = true := by
  intro j hj
  rw [n22] at hj
  by_cases h : j < 2
  · exact List.all_eq_true.1 w22x0 j (List.mem_range'_1.2 ⟨by omega, by omega⟩)
  omega
set_option maxRecDepth 100000 in
theorem n23 : (apt.casesV 23).length = 2 := by kernel_rfl
set_option maxRecDepth 100000 in
theorem g23 : ∀ j : Nat, j < (apt.casesV 23).length → enc.vat 23 j = true := by
  intro j hj
  rw [n23] at hj
  by_cases h : j < 2
  · exact List.all_eq_true.1 w23x0 j (List.mem_range'_1.2 ⟨by omega, by omega⟩)
  omega
set_option maxRecDepth 100000 in
theorem n24 : (apt.casesV 24).length = 2 := by kernel_rfl
set_option maxRecDepth 100000 in
theorem g24 : ∀ j : Nat, j < (apt.casesV 24).length → enc.vat 24 j = true := by
  intro j hj
  rw [n24] at hj
  by_cases h : j < 2
  · exact List.all_eq_true.1 w24x0 j (List.mem_range'_1.2 ⟨by omega, by omega⟩)
  omega
set_option maxRecDepth 100000 in
theorem n25 : (apt.casesV 25).length = 3 := by kernel_rfl
set_option maxRecDepth 100000 in
theorem g25 : ∀ j : Nat, j < (apt.casesV 25).length → enc.vat 25 j = true := by
  intro j hj
  rw [n25] at hj
  by_cases h : j < 1
  · exact List.all_eq_true.1 w25x0 j (List.mem_range'_1.2 ⟨by omega, by omega⟩)
  by_cases h : j < 2
  · exact List.all_eq_true.1 w25x1 j (List.mem_range'_1.2 ⟨by omega, by omega⟩)
  by_cases h : j < 3
  · exact List.all_eq_true.1 w25x2 j (List.mem_range'_1.2 ⟨by omega, by omega⟩)
  omega
set_option maxRecDepth 100000 in
theorem n26 : (apt.casesV 26).length = 3 := by kernel_rfl
set_option maxRecDepth 100000 in
theorem g26 : ∀ j : Nat, j < (apt.casesV 26).length → enc.vat 26 j = true := by
  intro j hj
  rw [n26] at hj
  by_cases h : j < 1
  · exact List.all_eq_true.1 w26x0 j (List.mem_range'_1.2 ⟨by omega, by omega⟩)
  by_cases h : j < 2
  · exact List.all_eq_true.1 w26x1 j (List.mem_range'_1.2 ⟨by omega, by omega⟩)
  by_cases h : j < 3
  · exact List.all_eq_true.1 w26x2 j (List.mem_range'_1.2 ⟨by omega, by omega⟩)
  omega
set_option maxRecDepth 100000 in
theorem n27 : (apt.casesV 27).length = 3 := by kernel_rfl
set_option maxRecDepth 100000 in
theorem g27 : ∀ j : Nat, j < (apt.casesV 27).length → enc.vat 27 j = true := by
  intro j hj
  rw [n27] at hj
  by_cases h : j < 1
  · exact List.all_eq_true.1 w27x0 j (List.mem_range'_1.2 ⟨by omega, by omega⟩)
  by_cases h : j < 2
  · exact List.all_eq_true.1 w27x1 j (List.mem_range'_1.2 ⟨by omega, by omega⟩)
  by_cases h : j < 3
  · exact List.all_eq_true.1 w27x2 j (List.mem_range'_1.2 ⟨by omega, by omega⟩)
  omega
set_option maxRecDepth 100000 in
theorem n28 : (apt.casesV 28).length = 3 := by kernel_rfl
set_option maxRecDepth 100000 in
theorem g28 : ∀ j : Nat, j < (apt.casesV 28).length → enc.vat 28 j = true := by
  intro j hj
  rw [n28] at hj
  by_cases h : j < 2
  · exact List.all_eq_true.1 w28x0 j (List.mem_range'_1.2 ⟨by omega, by omega⟩)
  by_cases h : j < 3
  · exact List.all_eq_true.1 w28x2 j (List.mem_range'_1.2 ⟨by omega, by omega⟩)
  omega
set_option maxRecDepth 100000 in
theorem n29 : (apt.casesV 29).length = 3 := by kernel_rfl
set_option maxRecDepth 100000 in
theorem g29 : ∀ j : Nat, j < (apt.casesV 29).length → enc.vat 29 j = true := by
  intro j hj
  rw [n29] at hj
  by_cases h : j < 1
  · exact List.all_eq_true.1 w29x0 j (List.mem_range'_1.2 ⟨by omega, by omega⟩)
  by_cases h : j < 2
  · exact List.all_eq_true.1 w29x1 j (List.mem_range'_1.2 ⟨by omega, by omega⟩)
  by_cases h : j < 3
  · exact List.all_eq_true.1 w29x2 j (List.mem_range'_1.2 ⟨by omega, by omega⟩)
  omega
set_option maxRecDepth 100000 in
theorem n30 : (apt.casesV 30).length = 3 := by kernel_rfl
set_option maxRecDepth 100000 in
theorem g30 : ∀ j : Nat, j < (apt.casesV 30).length → enc.vat 30 j = true := by
  intro j hj
  rw [n30] at hj
  by_cases h : j < 1
  · exact List.all_eq_true.1 w30x0 j (List.mem_range'_1.2 ⟨by omega, by omega⟩)
  by_cases h : j < 2
  · exact List.all_eq_true.1 w30x1 j (List.mem_range'_1.2 ⟨by omega, by omega⟩)
  by_cases h : j < 3
  · exact List.all_eq_true.1 w30x2 j (List.mem_range'_1.2 ⟨by omega, by omega⟩)
  omega
set_option maxRecDepth 100000 in
theorem n31 : (apt.casesV 31).length = 16 := by kernel_rfl
set_option maxRecDepth 100000 in
theorem g31 : ∀ j : Nat, j < (apt.casesV 31).length → enc.vat 31 j = true := by
  intro j hj
  rw [n31] at hj
  by_cases h : j < 1
  · exact List.all_eq_true.1 w31x0 j (List.mem_range'_1.2 ⟨by omega, by omega⟩)
  by_cases h : j < 2
  · exact List.all_eq_true.1 w31x1 j (List.mem_range'_1.2 ⟨by omega, by omega⟩)
  by_cases h : j < 3
  · exact List.all_eq_true.1 w31x2 j (List.mem_range'_1.2 ⟨by omega, by omega⟩)
  by_cases h : j < 4
  · exact List.all_eq_true.1 w31x3 j (List.mem_range'_1.2 ⟨by omega, by omega⟩)
  by_cases h : j < 5
  · exact List.all_eq_true.1 w31x4 j (List.mem_range'_1.2 ⟨by omega, by omega⟩)
  by_cases h : j < 6
  · exact List.all_eq_true.1 w31x5 j (List.mem_range'_1.2 ⟨by omega, by omega⟩)
  by_cases h : j < 7
  · exact List.all_eq_true.1 w31x6 j (List.mem_range'_1.2 ⟨by omega, by omega⟩)
  by_cases h : j < 8
  · exact List.all_eq_true.1 w31x7 j (List.mem_range'_1.2 ⟨by omega, by omega⟩)
  by_cases h : j < 9
  · exact List.all_eq_true.1 w31x8 j (List.mem_range'_1.2 ⟨by omega, by omega⟩)
  by_cases h : j < 10
  · exact List.all_eq_true.1 w31x9 j (List.mem_range'_1.2 ⟨by omega, by omega⟩)
  by_cases h : j < 11
  · exact List.all_eq_true.1 w31x10 j (List.mem_range'_1.2 ⟨by omega, by omega⟩)
  by_cases h : j < 12
  · exact List.all_eq_true.1 w31x11 j (List.mem_range'_1.2 ⟨by omega, by omega⟩)
  by_cases h : j < 13
  · exact List.all_eq_true.1 w31x12 j (List.mem_range'_1.2 ⟨by omega, by omega⟩)
  by_cases h : j < 14
  · exact List.all_eq_true.1 w31x13 j (List.mem_range'_1.2 ⟨by omega, by omega⟩)
  by_cases h : j < 15
  · exact List.all_eq_true.1 w31x14 j (List.mem_range'_1.2 ⟨by omega, by omega⟩)
  by_cases h : j < 16
  · exact List.all_eq_true.1 w31x15 j (List.mem_range'_1.2 ⟨by omega, by omega⟩)
  omega
set_option maxRecDepth 100000 in
theorem n32 : (apt.casesV 32).length = 16 := by kernel_rfl
set_option maxRecDepth 100000 in
theorem g32 : ∀ j : Nat, j < (apt.casesV 32).length → enc.vat 32 j = true := by
  intro j hj
  rw [n32] at hj
  by_cases h : j < 1
  · exact List.all_eq_true.1 w32x0 j (List.mem_range'_1.2 ⟨by omega, by omega⟩)
  by_cases h : j < 2
  · exact List.all_eq_true.1 w32x1 j (List.mem_range'_1.2 ⟨by omega, by omega⟩)
  by_cases h : j < 3
  · exact List.all_eq_true.1 w32x2 j (List.mem_range'_1.2 ⟨by omega, by omega⟩)
  by_cases h : j < 4
  · exact List.all_eq_true.1 w32x3 j (List.mem_range'_1.2 ⟨by omega, by omega⟩)
  by_cases h : j < 5
  · exact List.all_eq_true.1 w32x4 j (List.mem_range'_1.2 ⟨by omega, by omega⟩)
  by_cases h : j < 6
  · exact List.all_eq_true.1 w32x5 j (List.mem_range'_1.2 ⟨by omega, by omega⟩)
  by_cases h : j < 7
  · exact List.all_eq_true.1 w32x6 j (List.mem_range'_1.2 ⟨by omega, by omega⟩)
  by_cases h : j < 8
  · exact List.all_eq_true.1 w32x7 j (List.mem_range'_1.2 ⟨by omega, by omega⟩)
  by_cases h : j < 9
  · exact List.all_eq_true.1 w32x8 j (List.mem_range'_1.2 ⟨by omega, by omega⟩)
  by_cases h : j < 10
  · exact List.all_eq_true.1 w32x9 j (List.mem_range'_1.2 ⟨by omega, by omega⟩)
  by_cases h : j < 11
  · exact List.all_eq_true.1 w32x10 j (List.mem_range'_1.2 ⟨by omega, by omega⟩)
  by_cases h : j < 12
  · exact List.all_eq_true.1 w32x11 j (List.mem_range'_1.2 ⟨by omega, by omega⟩)
  by_cases h : j < 13
  · exact List.all_eq_true.1 w32x12 j (List.mem_range'_1.2 ⟨by omega, by omega⟩)
  by_cases h : j < 14
  · exact List.all_eq_true.1 w32x13 j (List.mem_range'_1.2 ⟨by omega, by omega⟩)
  by_cases h : j < 15
  · exact List.all_eq_true.1 w32x14 j (List.mem_range'_1.2 ⟨by omega, by omega⟩)
  by_cases h : j < 16
  · exact List.all_eq_true.1 w32x15 j (List.mem_range'_1.2 ⟨by omega, by omega⟩)
  omega
set_option maxRecDepth 100000 in
theorem n33 : (apt.casesV 33).length = 2 := by kernel_rfl
set_option maxRecDepth 100000 in
theorem g33 : ∀ j : Nat, j < (apt.casesV 33).length → enc.vat 33 j = true := by
  intro j hj
  rw [n33] at hj
  by_cases h : j < 2
  · exact List.all_eq_true.1 w33x0 j (List.mem_range'_1.2 ⟨by omega, by omega⟩)
  omega
set_option maxRecDepth 100000 in
theorem n34 : (apt.casesV 34).length = 2 := by kernel_rfl
set_option maxRecDepth 100000 in
theorem g34 : ∀ j : Nat, j < (apt.casesV 34).length → enc.vat 34 j = true := by
  intro j hj
  rw [n34] at hj
  by_cases h : j < 1
  · exact List.all_eq_true.1 w34x0 j (List.mem_range'_1.2 ⟨by omega, by omega⟩)
  by_cases h : j < 2
  · exact List.all_eq_true.1 w34x1 j (List.mem_range'_1.2 ⟨by omega, by omega⟩)
  omega
set_option maxRecDepth 100000 in
theorem n35 : (apt.casesV 35).length = 5 := by kernel_rfl
set_option maxRecDepth 100000 in
theorem g35 : ∀ j : Nat, j < (apt.casesV 35).length → enc.vat 35 j = true := by
  intro j hj
  rw [n35] at hj
  by_cases h : j < 2
  · exact List.all_eq_true.1 w35x0 j (List.mem_range'_1.2 ⟨by omega, by omega⟩)
  by_cases h : j < 3
  · exact List.all_eq_true.1 w35x2 j (List.mem_range'_1.2 ⟨by omega, by omega⟩)
  by_cases h : j < 5
  · exact List.all_eq_true.1 w35x3 j (List.mem_range'_1.2 ⟨by omega, by omega⟩)
  omega
set_option maxRecDepth 100000 in
theorem n36 : (apt.casesV 36).length = 2 := by kernel_rfl
set_option maxRecDepth 100000 in
theorem g36 : ∀ j : Nat, j < (apt.casesV 36).length → enc.vat 36 j = true := by
  intro j hj
  rw [n36] at hj
  by_cases h : j < 2
  · exact List.all_eq_true.1 w36x0 j (List.mem_range'_1.2 ⟨by omega, by omega⟩)
  omega
set_option maxRecDepth 100000 in
theorem n37 : (apt.casesV 37).length = 2 := by kernel_rfl
set_option maxRecDepth 100000 in
theorem g37 : ∀ j : Nat, j < (apt.casesV 37).length → enc.vat 37 j = true := by
  intro j hj
  rw [n37] at hj
  by_cases h : j < 2
  · exact List.all_eq_true.1 w37x0 j (List.mem_range'_1.2 ⟨by omega, by omega⟩)
  omega
set_option maxRecDepth 100000 in
theorem n38 : (apt.casesV 38).length = 2 := by kernel_rfl
set_option maxRecDepth 100000 in
theorem g38 : ∀ j : Nat, j < (apt.casesV 38).length → enc.vat 38 j = true := by
  intro j hj
  rw [n38] at hj
  by_cases h : j < 2
  · exact List.all_eq_true.1 w38x0 j (List.mem_range'_1.2 ⟨by omega, by omega⟩)
  omega
set_option maxRecDepth 100000 in
theorem n39 : (apt.casesV 39).length = 2 := by kernel_rfl
set_option maxRecDepth 100000 in
theorem g39 : ∀ j : Nat, j < (apt.casesV 39).length → enc.vat 39 j = true := by
  intro j hj
  rw [n39] at hj
  by_cases h : j < 2
  · exact List.all_eq_true.1 w39x0 j (List.mem_range'_1.2 ⟨by omega, by omega⟩)
  omega
set_option maxRecDepth 100000 in
theorem n40 : (apt.casesV 40).length = 3 := by kernel_rfl
set_option maxRecDepth 100000 in
theorem g40 : ∀ j : Nat, j < (apt.casesV 40).length → enc.vat 40 j = true := by
  intro j hj
  rw [n40] at hj
  by_cases h : j < 3
  · exact List.all_eq_true.1 w40x0 j (List.mem_range'_1.2 ⟨by omega, by omega⟩)
  omega
set_option maxRecDepth 100000 in
theorem n41 : (apt.casesV 41).length = 3 := by kernel_rfl
set_option maxRecDepth 100000 in
theorem g41 : ∀ j : Nat, j < (apt.casesV 41).length → enc.vat 41 j = true := by
  intro j hj
  rw [n41] at hj
  by_cases h : j < 2
  · exact List.all_eq_true.1 w41x0 j (List.mem_range'_1.2 ⟨by omega, by omega⟩)
  by_cases h : j < 3
  · exact List.all_eq_true.1 w41x2 j (List.mem_range'_1.2 ⟨by omega, by omega⟩)
  omega
set_option maxRecDepth 100000 in
theorem n42 : (apt.casesV 42).length = 2 := by kernel_rfl
set_option maxRecDepth 100000 in
theorem g42 : ∀ j : Nat, j < (apt.casesV 42).length → enc.vat 42 j = true := by
  intro j hj
  rw [n42] at hj
  by_cases h : j < 2
  · exact List.all_eq_true.1 w42x0 j (List.mem_range'_1.2 ⟨by omega, by omega⟩)
  omega
set_option maxRecDepth 100000 in
theorem n43 : (apt.casesV 43).length = 2 := by kernel_rfl
set_option maxRecDepth 100000 in
theorem g43 : ∀ j : Nat, j < (apt.casesV 43).length → enc.vat 43 j = true := by
  intro j hj
  rw [n43] at hj
  by_cases h : j < 2
  · exact List.all_eq_true.1 w43x0 j (List.mem_range'_1.2 ⟨by omega, by omega⟩)
  omega
set_option maxRecDepth 100000 in
theorem n44 : (apt.casesV 44).length = 2 := by kernel_rfl
set_option maxRecDepth 100000 in
theorem g44 : ∀ j : Nat, j < (apt.casesV 44).length → enc.vat 44 j = true := by
  intro j hj
  rw [n44] at hj
  by_cases h : j < 2
  · exact List.all_eq_true.1 w44x0 j (List.mem_range'_1.2 ⟨by omega, by omega⟩)
  omega
set_option maxRecDepth 100000 in
theorem n45 : (apt.casesV 45).length = 2 := by kernel_rfl
set_option maxRecDepth 100000 in
theorem g45 : ∀ j : Nat, j < (apt.casesV 45).length → enc.vat 45 j = true := by
  intro j hj
  rw [n45] at hj
  by_cases h : j < 2
  · exact List.all_eq_true.1 w45x0 j (List.mem_range'_1.2 ⟨by omega, by omega⟩)
  omega
set_option maxRecDepth 100000 in
theorem all : ∀ k : Nat, 1 ≤ k → k ≤ 45 → ∀ j : Nat, j < (apt.casesV k).length → enc.vat k j = true := by
  intro k h h'
  match k, h, h' with
  | 1, _, _ => exact g1
  | 2, _, _ => exact g2
  | 3, _, _ => exact g3
  | 4, _, _ => exact g4
  | 5, _, _ => exact g5
  | 6, _, _ => exact g6
  | 7, _, _ => exact g7
  | 8, _, _ => exact g8
  | 9, _, _ => exact g9
  | 10, _, _ => exact g10
  | 11, _, _ => exact g11
  | 12, _, _ => exact g12
  | 13, _, _ => exact g13
  | 14, _, _ => exact g14
  | 15, _, _ => exact g15
  | 16, _, _ => exact g16
  | 17, _, _ => exact g17
  | 18, _, _ => exact g18
  | 19, _, _ => exact g19
  | 20, _, _ => exact g20
  | 21, _, _ => exact g21
  | 22, _, _ => exact g22
  | 23, _, _ => exact g23
  | 24, _, _ => exact g24
  | 25, _, _ => exact g25
  | 26, _, _ => exact g26
  | 27, _, _ => exact g27
  | 28, _, _ => exact g28
  | 29, _, _ => exact g29
  | 30, _, _ => exact g30
  | 31, _, _ => exact g31
  | 32, _, _ => exact g32
  | 33, _, _ => exact g33
  | 34, _, _ => exact g34
  | 35, _, _ => exact g35
  | 36, _, _ => exact g36
  | 37, _, _ => exact g37
  | 38, _, _ => exact g38
  | 39, _, _ => exact g39
  | 40, _, _ => exact g40
  | 41, _, _ => exact g41
  | 42, _, _ => exact g42
  | 43, _, _ => exact g43
  | 44, _, _ => exact g44
  | 45, _, _ => exact g45
  | n + 46, _, h' => omega
set_option maxRecDepth 100000 in
theorem cov : ∀ k : Nat, 1 ≤ k → k ≤ 45 → apt.covV k = true := by
  intro k h h'
  match k, h, h' with
  | 1, _, _ => exact c1
  | 2, _, _ => exact c2
  | 3, _, _ => exact c3
  | 4, _, _ => exact c4
  | 5, _, _ => exact c5
  | 6, _, _ => exact c6
  | 7, _, _ => exact c7
  | 8, _, _ => exact c8
  | 9, _, _ => exact c9
  | 10, _, _ => exact c10
  | 11, _, _ => exact c11
  | 12, _, _ => exact c12
  | 13, _, _ => exact c13
  | 14, _, _ => exact c14
  | 15, _, _ => exact c15
  | 16, _, _ => exact c16
  | 17, _, _ => exact c17
  | 18, _, _ => exact c18
  | 19, _, _ => exact c19
  | 20, _, _ => exact c20
  | 21, _, _ => exact c21
  | 22, _, _ => exact c22
  | 23, _, _ => exact c23
  | 24, _, _ => exact c24
  | 25, _, _ => exact c25
  | 26, _, _ => exact c26
  | 27, _, _ => exact c27
  | 28, _, _ => exact c28
  | 29, _, _ => exact c29
  | 30, _, _ => exact c30
  | 31, _, _ => exact c31
  | 32, _, _ => exact c32
  | 33, _, _ => exact c33
  | 34, _, _ => exact c34
  | 35, _, _ => exact c35
  | 36, _, _ => exact c36
  | 37, _, _ => exact c37
  | 38, _, _ => exact c38
  | 39, _, _ => exact c39
  | 40, _, _ => exact c40
  | 41, _, _ => exact c41
  | 42, _, _ => exact c42
  | 43, _, _ => exact c43
  | 44, _, _ => exact c44
  | 45, _, _ => exact c45
  | n + 46, _, h' => omega
set_option maxRecDepth 100000 in
theorem ex {x : Fields} (hx : x.Ok) (it : Bool) : ∃ p, EncX enc.exLong 50 104 2 x it p := xxV encS_ok encS_body hx it lo hi cov all
end Go.Proofs.YthbdmlcbdibiiaaGreatDoor.env
/- For the seat: the reference's encoders together, their answer a new row; what is encoded is read back, and of halfwords. -/
namespace Go.Proofs.YthbdmlcbdibiiaaGreatDoor
open Go.Sx Go.ChangeShapes Go.WideShapes Go.RowKit Go.Joins Go.Deep
set_option maxRecDepth 100000 in
theorem pair_inj {x y : Fields} {a b : Bool} (h : Value.tuple #[x.val, .bool a] = Value.tuple #[y.val, .bool b]) : x = y ∧ a = b := by
  simp only [Value.tuple.injEq] at h
  have h := congrArg Array.toList h
  simp only [List.cons.injEq, Value.bool.injEq, and_true] at h
  exact ⟨val_inj h.1, h.2⟩
set_option maxRecDepth 100000 in
theorem shortOf_eq {a : Int} (ha : kHas .i64 a) {it : Bool} {x : Fields} {ok : Bool} (h : Ans 103 [.int .i64 a, .bool it] (.tuple #[x.val, .bool ok])) : shortOf a it = (x, ok) := by
  obtain ⟨h1, h2⟩ := pair_inj (Ans.one (by kernel_rfl) (shortOf_ok ha it).ans h)
  exact Prod.ext h1 h2
set_option maxRecDepth 100000 in
theorem tallOf_eq {a b : Int} (ha : kHas .i64 a) (hb : kHas .i64 b) {it : Bool} {x : Fields} {ok : Bool} (h : Ans 104 [.int .i64 a, .int .i64 b, .bool it] (.tuple #[x.val, .bool ok])) : tallOf a b it = (x, ok) := by
  obtain ⟨h1, h2⟩ := pair_inj (Ans.one (by kernel_rfl) (tallOf_ok ha hb it).ans h)
  exact Prod.ext h1 h2
abbrev NrwP (x : Fields) (it : Bool) (p : List Int × Bool) : Prop := EncX enc.exShort 51 103 1 x it p
abbrev WdeP (x : Fields) (it : Bool) (p : List Int × Bool) : Prop := EncX enc.exLong 50 104 2 x it p
open Classical in
noncomputable def nrwOf (x : Fields) (it : Bool) : List Int × Bool := if h : ∃ p, NrwP x it p then Classical.choose h else ([], false)
open Classical in
noncomputable def wdeOf (x : Fields) (it : Bool) : List Int × Bool := if h : ∃ p, WdeP x it p then Classical.choose h else ([], false)
set_option maxRecDepth 100000 in
theorem nrwOf_ok {x : Fields} (hx : x.Ok) (it : Bool) : NrwP x it (nrwOf x it) := by
  unfold nrwOf
  rw [dif_pos (enn.ex hx it)]
  exact Classical.choose_spec (enn.ex hx it)
set_option maxRecDepth 100000 in
theorem wdeOf_ok {x : Fields} (hx : x.Ok) (it : Bool) : WdeP x it (wdeOf x it) := by
  unfold wdeOf
  rw [dif_pos (env.ex hx it)]
  exact Classical.choose_spec (env.ex hx it)
def pickE (p : List Int × Bool) : List Int × Int := if p.2 then (p.1, 0) else ([], 6)
noncomputable def encOf (x : Fields) (wide it : Bool) : List Int × Int := if wide then pickE (wdeOf x it) else pickE (nrwOf x it)
noncomputable def bestOf (x : Fields) (it : Bool) : List Int × Int := if (encOf x false it).2 = 0 then ((encOf x false it).1, 0) else encOf x true it
def RetO (p : List Int × Int) (base : Nat) (e : Ending) (w w' : World) : Prop := ∃ v, e = .returned (.tuple #[v, .int .i64 p.2]) ∧ w'.ownsRow base 3 1 v p.1.length (encI p.1) ∧ Below base w w' ∧ (p.1 = [] → v = .slice none 0 0)
set_option maxRecDepth 100000 in
theorem RetO.more {p : List Int × Int} {base base' : Nat} {e : Ending} {w w' : World} (h : RetO p base e w w') (hb : base' ≤ base) : RetO p base' e w w' := by
  obtain ⟨v, h1, h2, h3, h4⟩ := h
  refine ⟨v, h1, ⟨h2.1, ?_⟩, h3.mono hb, h4⟩
  rcases h2.2 with h | ⟨g, cap, cur, e1, e2, e3⟩
  · exact .inl h
  · exact .inr ⟨g, cap, cur, e1, Nat.le_trans hb e2, e3⟩
set_option maxRecDepth 100000 in
theorem enc_wide {x : Fields} {it : Bool} {a b : Int} {ok : Bool} (hA : Ans 50 [x.val, .bool it] (.tuple #[.int .i64 a, .int .i64 b, .bool ok])) (w : World) (hw : Laid w) :
    Calls Tryz.prog 28 #[x.val, .bool true, .bool it] w fun e w' => RetO (pickE ([a, b], ok)) w.heap.size e w w' := by
  have b0 : Below w.heap.size w (w.alloc (.cells x.cells 23)) := (Below.refl _ _).alloc (Nat.le_refl _) _
  have hl := laid_below hw b0
  obtain ⟨x0, x1, x2, x3, x4, x5, x6, x7, xb⟩ := x
  dsimp only [Fields.val] at hA ⊢
  go_enter Tryz.func28, Tryz.ntmps28
  go_wp2_with fail
  ((with_reducible refine (hA.go hl).mono ?_); rintro e w1 ⟨rfl, hb1⟩)
  have b1 := b0.trans (hb1.mono (by simp))
  cases ok
  · go_wp2_with fail
    refine bodyPost_ret (results_tmp2 rfl _ _ _) rfl ?_
    exact ⟨_, rfl, World.ownsRow_nil _ _ _ _, b1, fun _ => rfl⟩
  · go_wp2_with fail
    refine bodyPost_ret (results_tmp2 rfl _ _ _) rfl ?_
    exact ⟨_, rfl, World.ownsRow_lit w1 #[.int .i64 a, .int .i64 b] 2 b1.size (by decide) rfl, b1.alloc b1.size _, fun h => by simp [pickE] at h⟩
set_option maxRecDepth 100000 in
theorem enc_short {x : Fields} {it : Bool} {a : Int} {ok : Bool} (hA : Ans 51 [x.val, .bool it] (.tuple #[.int .i64 a, .bool ok])) (w : World) (hw : Laid w) :
    Calls Tryz.prog 28 #[x.val, .bool false, .bool it] w fun e w' => RetO (pickE ([a], ok)) w.heap.size e w w' := by
  have b0 : Below w.heap.size w (w.alloc (.cells x.cells 23)) := (Below.refl _ _).alloc (Nat.le_refl _) _
  have hl := laid_below hw b0
  obtain ⟨x0, x1, x2, x3, x4, x5, x6, x7, xb⟩ := x
  dsimp only [Fields.val] at hA ⊢
  go_enter Tryz.func28, Tryz.ntmps28
  go_wp2_with fail
  ((with_reducible refine (hA.go hl).mono ?_); rintro e w1 ⟨rfl, hb1⟩)
  have b1 := b0.trans (hb1.mono (by simp))
  cases ok
  · go_wp2_with fail
    refine bodyPost_ret (results_tmp2 rfl _ _ _) rfl ?_
    exact ⟨_, rfl, World.ownsRow_nil _ _ _ _, b1, fun _ => rfl⟩
  · go_wp2_with fail
    refine bodyPost_ret (results_tmp2 rfl _ _ _) rfl ?_
    exact ⟨_, rfl, World.ownsRow_lit w1 #[.int .i64 a] 1 b1.size (by decide) rfl, b1.alloc b1.size _, fun h => by simp [pickE] at h⟩
set_option maxRecDepth 100000 in
theorem enc_any {x : Fields} (hx : x.Ok) (wide it : Bool) (w : World) (hw : Laid w) : Calls Tryz.prog 28 #[x.val, .bool wide, .bool it] w fun e w' => RetO (encOf x wide it) w.heap.size e w w' := by
  cases wide
  · have h := (nrwOf_ok hx it).enc
    unfold encOf
    rw [if_neg (by decide)]
    generalize nrwOf x it = q at h ⊢
    obtain ⟨p, ok⟩ := q
    match p, h with
    | [a], h => exact enc_short h.enc w hw
    | [], h => exact absurd h.len (by simp)
    | _ :: _ :: _, h => exact absurd h.len (by simp)
  · have h := (wdeOf_ok hx it).enc
    unfold encOf
    rw [if_pos rfl]
    generalize wdeOf x it = q at h ⊢
    obtain ⟨p, ok⟩ := q
    match p, h with
    | [a, b], h => exact enc_wide h.enc w hw
    | [], h => exact absurd h.len (by simp)
    | [_], h => exact absurd h.len (by simp)
    | _ :: _ :: _ :: _, h => exact absurd h.len (by simp)
set_option maxRecDepth 100000 in
theorem encOf_err (x : Fields) (wide it : Bool) : (encOf x wide it).2 = 0 ∨ (encOf x wide it).2 = 6 := by
  unfold encOf pickE
  split <;> split <;> simp
set_option maxRecDepth 100000 in
theorem best_any {x : Fields} (hx : x.Ok) (it : Bool) (w : World) (hw : Laid w) : Calls Tryz.prog 13 #[x.val, .bool it] w fun e w' => RetO (bestOf x it) w.heap.size e w w' := by
  have b0 : Below w.heap.size w (w.alloc (.cells x.cells 23)) := (Below.refl _ _).alloc (Nat.le_refl _) _
  have i0 : InsAt (w.alloc (.cells x.cells 23)) w.heap.size x := InsAt.new _ _ _
  have hl := laid_below hw b0
  have hS := fun w1 hw1 => enc_any hx false it w1 hw1
  have hL := fun w1 hw1 => enc_any hx true it w1 hw1
  have he := encOf_err x false it
  unfold bestOf
  generalize encOf x false it = p at *
  generalize encOf x true it = q at *
  obtain ⟨l, e⟩ := p
  obtain ⟨m, f⟩ := q
  clear hx
  have IZ := Lib.hid i0
  clear i0
  obtain ⟨x0, x1, x2, x3, x4, x5, x6, x7, xb⟩ := x
  dsimp only [Fields.val] at hS hL ⊢
  go_enter Tryz.func13, Tryz.ntmps13
  go_wp2_with fail
  ((with_reducible refine (hS _ hl).mono ?_); rintro e1 w1 h1)
  obtain ⟨v1, rfl, hown1, hb1', hnil1⟩ := h1.more (base' := w.heap.size) (by simp)
  obtain ⟨_, _, _, hb1, _⟩ := h1
  have b1 := b0.trans hb1'
  have hl1 := laid_below hw b1
  obtain ⟨⟨p0, p1, p2, p3, p4, p5, p6, p7, p8⟩, _⟩ := IZ.out.below hb1 (by simp)
  simp only at p0 p1 p2 p3 p4 p5 p6 p7 p8
  rcases he with rfl | rfl
  · go_wp2_with fail
    refine bodyPost_ret (results_tmp2 rfl _ _ _) rfl ?_
    exact ⟨_, rfl, hown1, b1, hnil1⟩
  · go_wp2_with fail
    ((with_reducible refine (hL _ hl1).mono ?_); rintro e1 w2 h2)
    obtain ⟨v2, rfl, hown2, hb2, hnil2⟩ := h2.more (base' := w.heap.size) b1.size
    go_wp2_with fail
    refine bodyPost_ret (results_tmp2 rfl _ _ _) rfl ?_
    exact ⟨_, rfl, hown2, b1.trans hb2, hnil2⟩
set_option maxRecDepth 100000 in
theorem pair_map2 {l : List Tm} {ρ : Env} {a b : Int} (h : (l.map fun t => (t.den ρ).asInt) = [a, b]) : ((l.getD 0 (.num 0)).den ρ).asInt = a := by
  match l, h with
  | [t, u], h => simp at h; exact h.1
set_option maxRecDepth 100000 in
theorem pair_map1 {l : List Tm} {ρ : Env} {a : Int} (h : (l.map fun t => (t.den ρ).asInt) = [a]) : ((l.getD 0 (.num 0)).den ρ).asInt = a := by
  match l, h with
  | [t], h => simp at h; exact h
set_option maxRecDepth 100000 in
theorem and_true' {a b : Bool} (h : (a && b) = true) : a = true ∧ b = true := by simpa using h
set_option maxRecDepth 100000 in
theorem and16i (n : Int) : bits .and .i64 n 65535 = n % 65536 := by
  have h0 : 0 ≤ n % 65536 := by omega
  have h1 : n % 65536 < 65536 := by omega
  refine eq_of_has (k := .i64) (bitsOp_has .i64 (fun a b => a &&& b) _ _) (has64 (by omega) (by omega)) fun i hi => ?_
  rw [show bits .and .i64 n 65535 = bitsOp .i64 (fun a b => a &&& b) n (.ofNat (2 ^ 16 - 1)) from rfl, andF_bit _ _ _ hi, low_bit]
  by_cases his : i < 16
  · rw [show (65536 : Int) = 2 ^ 16 from rfl, bitI_emod _ _ _ his]; simp [his]
  · have e := bitI_high (n % 65536) 16 i (by omega) h1 (by omega)
    rw [e, decide_eq_false his, Bool.and_false, decide_eq_false (by omega)]
set_option maxRecDepth 100000 in
theorem low16 {a : Int} (h : (bitsOp .i64 (fun a b => a &&& b) a 65535 == a) = true) : 0 ≤ a ∧ a < 65536 := by
  have h := eq_of_beq h
  have e : bitsOp .i64 (fun a b => a &&& b) a 65535 = a % 65536 := and16i a
  omega
set_option maxRecDepth 100000 in
theorem pair_snd2 {l : List Tm} {ρ : Env} {a b : Int} (h : (l.map fun t => (t.den ρ).asInt) = [a, b]) : ((l.getD 1 (.num 0)).den ρ).asInt = b := by
  match l, h with
  | [t, u], h => simp at h; exact h.2
set_option maxRecDepth 100000 in
theorem back_law {x : Fields} (hx : x.Ok) {wide it : Bool} (he : (encOf x wide it).2 = 0) :
    (∀ a ∈ (encOf x wide it).1, kHas .i64 a) ∧ 1 ≤ (encOf x wide it).1.length ∧ (encOf x wide it).1.length ≤ 2 ∧ ∀ r, decOf ((encOf x wide it).1 ++ r) it = (x, ((encOf x wide it).1.length : Int), 0) := by
  cases wide
  · have h := nrwOf_ok hx it
    unfold encOf at he ⊢
    rw [if_neg (by decide)] at he ⊢
    generalize nrwOf x it = q at h he ⊢
    obtain ⟨p, ok⟩ := q
    cases ok
    · exact absurd (show (6 : Int) = 0 from he) (by decide)
    have hb := h.more rfl
    have hd := h.enc.dec rfl
    have hh := h.enc.has
    have hlen := h.enc.len
    clear h he
    rcases p with _ | ⟨a, _ | ⟨b, p⟩⟩
    · exact absurd hlen (by simp)
    · have ha : kHas .i64 a := hh a (by simp)
      have e := shortOf_eq ha hd
      obtain ⟨l, ρ, h1, h2⟩ := hb
      have hl : longB a = false := by
        have h2 : (!longB ((l.getD 0 (.num 0)).den ρ).asInt) = true := (and_true' h2).1
        rw [pair_map1 h1] at h2
        simpa using h2
      refine ⟨fun b hb => hh b hb, by simp [pickE], by simp [pickE], fun r => ?_⟩
      show decOf (a :: r) it = _
      cases r with
      | nil => rw [decOf_one, hl, if_neg (by decide), e]; rfl
      | cons b r => rw [decOf_two, hl, if_neg (by decide), e]; rfl
    · exact absurd hlen (by simp)
  · have h := wdeOf_ok hx it
    unfold encOf at he ⊢
    rw [if_pos rfl] at he ⊢
    generalize wdeOf x it = q at h he ⊢
    obtain ⟨p, ok⟩ := q
    cases ok
    · exact absurd (show (6 : Int) = 0 from he) (by decide)
    have hb := h.more rfl
    have hd := h.enc.dec rfl
    have hh := h.enc.has
    have hlen := h.enc.len
    clear h he
    rcases p with _ | ⟨a, _ | ⟨b, _ | ⟨c, p⟩⟩⟩
    · exact absurd hlen (by simp)
    · exact absurd hlen (by simp)
    · have ha : kHas .i64 a := hh a (by simp)
      have e := tallOf_eq ha (hh b (by simp)) hd
      obtain ⟨l, ρ, h1, h2⟩ := hb
      have hl : longB a = true := by
        have h2 : longB ((l.getD 0 (.num 0)).den ρ).asInt = true := (and_true' h2).1
        rw [pair_map2 h1] at h2
        exact h2
      refine ⟨fun b hb => hh b hb, by simp [pickE], by simp [pickE], fun r => ?_⟩
      show decOf (a :: b :: r) it = _
      rw [decOf_two, hl, if_pos rfl, e]; rfl
    · exact absurd hlen (by simp)
set_option maxRecDepth 100000 in
theorem enc_low {x : Fields} (hx : x.Ok) {wide it : Bool} (he : (encOf x wide it).2 = 0) : ∀ a ∈ (encOf x wide it).1, 0 ≤ a ∧ a < 65536 := by
  cases wide
  · have h := nrwOf_ok hx it
    unfold encOf at he ⊢
    rw [if_neg (by decide)] at he ⊢
    generalize nrwOf x it = q at h he ⊢
    obtain ⟨p, ok⟩ := q
    cases ok
    · exact absurd (show (6 : Int) = 0 from he) (by decide)
    obtain ⟨l, ρ, h1, h2⟩ := h.more rfl
    have hlen := h.enc.len
    clear h he
    rcases p with _ | ⟨a, _ | ⟨b, p⟩⟩
    · exact absurd hlen (by simp)
    · have h3 := (and_true' h2).2
      have h3 : (bitsOp .i64 (fun a b => a &&& b) ((l.getD 0 (.num 0)).den ρ).asInt 65535 == ((l.getD 0 (.num 0)).den ρ).asInt) = true := h3
      rw [pair_map1 h1] at h3
      intro b hb
      simp only [pickE, if_true, List.mem_cons, List.not_mem_nil, or_false] at hb
      subst hb
      exact low16 h3
    · exact absurd hlen (by simp)
  · have h := wdeOf_ok hx it
    unfold encOf at he ⊢
    rw [if_pos rfl] at he ⊢
    generalize wdeOf x it = q at h he ⊢
    obtain ⟨p, ok⟩ := q
    cases ok
    · exact absurd (show (6 : Int) = 0 from he) (by decide)
    obtain ⟨l, ρ, h1, h2⟩ := h.more rfl
    have hlen := h.enc.len
    clear h he
    rcases p with _ | ⟨a, _ | ⟨b, _ | ⟨c, p⟩⟩⟩
    · exact absurd hlen (by simp)
    · exact absurd hlen (by simp)
    · have h3 := and_true' (and_true' h2).2
      have h4 : (bitsOp .i64 (fun a b => a &&& b) ((l.getD 0 (.num 0)).den ρ).asInt 65535 == ((l.getD 0 (.num 0)).den ρ).asInt) = true := h3.1
      have h5 : (bitsOp .i64 (fun a b => a &&& b) ((l.getD 1 (.num 0)).den ρ).asInt 65535 == ((l.getD 1 (.num 0)).den ρ).asInt) = true := h3.2
      rw [pair_map2 h1] at h4
      rw [pair_snd2 h1] at h5
      intro b hb
      simp only [pickE, if_true, List.mem_cons, List.not_mem_nil, or_false] at hb
      rcases hb with rfl | rfl
      · exact low16 h4
      · exact low16 h5
    · exact absurd hlen (by simp)
set_option maxRecDepth 100000 in
theorem bestOf_wide (x : Fields) (it : Bool) : ∃ wide, bestOf x it = encOf x wide it ∨ (bestOf x it).2 = 0 ∧ (encOf x wide it).2 = 0 ∧ (bestOf x it).1 = (encOf x wide it).1 := by
  unfold bestOf
  split
  · rename_i h
    exact ⟨false, .inr ⟨rfl, h, rfl⟩⟩
  · exact ⟨true, .inl rfl⟩
set_option maxRecDepth 100000 in
theorem best_law {x : Fields} (hx : x.Ok) {it : Bool} (he : (bestOf x it).2 = 0) :
    1 ≤ (bestOf x it).1.length ∧ (bestOf x it).1.length ≤ 2 ∧ (∀ a ∈ (bestOf x it).1, 0 ≤ a ∧ a < 65536) ∧ ∀ r, decOf ((bestOf x it).1 ++ r) it = (x, ((bestOf x it).1.length : Int), 0) := by
  obtain ⟨wide, h⟩ := bestOf_wide x it
  rcases h with h | ⟨_, h2, h3⟩
  · rw [h] at he ⊢
    obtain ⟨_, b, c, d⟩ := back_law hx he
    exact ⟨b, c, enc_low hx he, d⟩
  · rw [h3]
    obtain ⟨_, b, c, d⟩ := back_law hx h2
    exact ⟨b, c, enc_low hx h2, d⟩
set_option maxRecDepth 100000 in
theorem best_err (x : Fields) (it : Bool) : (bestOf x it).2 = 0 ∨ (bestOf x it).2 = 6 := by
  unfold bestOf
  split
  · exact .inl rfl
  · exact encOf_err x true it
set_option maxRecDepth 100000 in
theorem encOf_nil {x : Fields} {wide it : Bool} (he : (encOf x wide it).2 = 6) : (encOf x wide it).1 = [] := by
  unfold encOf pickE at *
  split at he <;> split at he <;> simp_all
set_option maxRecDepth 100000 in
theorem best_nil (x : Fields) (it : Bool) (he : (bestOf x it).2 = 6) : (bestOf x it).1 = [] := by
  unfold bestOf at *
  split at he
  · exact absurd (show (0 : Int) = 6 from he) (by decide)
  · rename_i h
    rw [if_neg h]
    exact encOf_nil he
end Go.Proofs.YthbdmlcbdibiiaaGreatDoor
/- For the seat: an argument that is a row of instructions. -/
namespace Go.Proofs.YthbdmlcbdibiiaaGreatDoor
open Go.Sx Go.ChangeShapes Go.WideShapes Go.RowKit Go.Joins Go.Deep
def FAt (w : World) (B : Nat) (A : Option Addr) (l : List Fields) : Prop :=
  l ≠ [] → ∃ g off, A = some ⟨g, off, none⟩ ∧ g < B ∧ ∀ (i : Nat) (x : Fields), l[i]? = some x → ∀ (j : Nat) (v : Value), x.cells[j]? = some v → w.cell? ⟨g, off + i * 9 + j, none⟩ = some v
set_option maxRecDepth 100000 in
theorem FAt.keep {w w' : World} {B : Nat} {A : Option Addr} {l : List Fields} (h : FAt w B A l) (hk : ∀ p : Addr, p.block < B → ∀ v, w.cell? p = some v → w'.cell? p = some v) : FAt w' B A l := by
  intro hn
  obtain ⟨g, off, e, hb, hc⟩ := h hn
  exact ⟨g, off, e, hb, fun i x hx j v hv => hk _ hb _ (hc i x hx j v hv)⟩
set_option maxRecDepth 100000 in
theorem FAt.below {w w' : World} {B B' : Nat} {A : Option Addr} {l : List Fields} (h : FAt w B A l) (hb : Below B' w w') (hB : B ≤ B') : FAt w' B A l := h.keep fun _ hp _ e => (hb.cell (by omega)).trans e
set_option maxRecDepth 100000 in
theorem FAt.more {w : World} {B B' : Nat} {A : Option Addr} {l : List Fields} (h : FAt w B A l) (hB : B ≤ B') : FAt w B' A l := by
  intro hn
  obtain ⟨g, off, e, hb, hc⟩ := h hn
  exact ⟨g, off, e, by omega, hc⟩
set_option maxRecDepth 100000 in
theorem FAt.at_ {w : World} {B : Nat} {A : Option Addr} {l : List Fields} (h : FAt w B A l) {k : Nat} (hk : k < l.length) :
    ∃ g off, A = some ⟨g, off, none⟩ ∧ g < B ∧ ∀ (j : Nat) (v : Value), l[k].cells[j]? = some v → w.cell? ⟨g, off + k * 9 + j, none⟩ = some v := by
  obtain ⟨g, off, e, hb, hc⟩ := h (by intro e; subst e; simp at hk)
  exact ⟨g, off, e, hb, fun j v hv => hc k l[k] (List.getElem?_eq_getElem hk) j v hv⟩
section
variable {H : Type} {enc : TypeId × Value → H}
set_option maxRecDepth 100000 in
theorem oneNoneF {w : World} {a : Addr} {v : Value} (h : w.cell? a = some v) : a.spot = none := by
  unfold World.cell? at h
  split at h
  · cases hs : a.spot with
    | none => rfl
    | some x => simp [hs] at h
  · cases h
set_option maxRecDepth 100000 in
theorem open_cellsI {W : World} {fuel : Nat} {cs : List Value} {x : DataW H × List MemPlace} (hl : cs.length = 9) (h : DataW.trod enc Tryz.prog W 0 (fun _ => true) true fuel 23 cs = some x) : ∃ y : Fields, y.Ok ∧ cs = y.cells.toList := by
  have hc1 : Tryz.prog.cellsOf 3 = 1 := by kernel_rfl
  have hc2 : Tryz.prog.cellsOf 4 = 1 := by kernel_rfl
  obtain ⟨ys, n', _, _, _, hyl, hg⟩ := DataW.trod_struct Tryz.underlying23 h
  match cs, hl, ys, hyl with
  | [c0, c1, c2, c3, c4, c5, c6, c7, c8], _, [z0, z1, z2, z3, z4, z5, z6, z7, z8], _ =>
    have g0 := hg 0 _ rfl
    simp [hc1] at g0
    have g1 := hg 1 _ rfl
    simp [hc1] at g1
    have g2 := hg 2 _ rfl
    simp [hc1] at g2
    have g3 := hg 3 _ rfl
    simp [hc1] at g3
    have g4 := hg 4 _ rfl
    simp [hc1] at g4
    have g5 := hg 5 _ rfl
    simp [hc1] at g5
    have g6 := hg 6 _ rfl
    simp [hc1] at g6
    have g7 := hg 7 _ rfl
    simp [hc1] at g7
    have g8 := hg 8 _ rfl
    simp [hc2] at g8
    obtain ⟨q0, e0, _, w0⟩ := DataW.trod_int Tryz.underlying3 g0
    obtain ⟨q1, e1, _, w1⟩ := DataW.trod_int Tryz.underlying3 g1
    obtain ⟨q2, e2, _, w2⟩ := DataW.trod_int Tryz.underlying3 g2
    obtain ⟨q3, e3, _, w3⟩ := DataW.trod_int Tryz.underlying3 g3
    obtain ⟨q4, e4, _, w4⟩ := DataW.trod_int Tryz.underlying3 g4
    obtain ⟨q5, e5, _, w5⟩ := DataW.trod_int Tryz.underlying3 g5
    obtain ⟨q6, e6, _, w6⟩ := DataW.trod_int Tryz.underlying3 g6
    obtain ⟨q7, e7, _, w7⟩ := DataW.trod_int Tryz.underlying3 g7
    obtain ⟨q8, e8, _⟩ := DataW.trod_bool Tryz.underlying4 g8
    simp only [List.cons.injEq, and_true] at e0 e1 e2 e3 e4 e5 e6 e7 e8
    subst e0 e1 e2 e3 e4 e5 e6 e7 e8
    exact ⟨⟨q0, q1, q2, q3, q4, q5, q6, q7, q8⟩, ⟨wf_has w0, wf_has w1, wf_has w2, wf_has w3, wf_has w4, wf_has w5, wf_has w6, wf_has w7⟩, rfl⟩
set_option maxRecDepth 100000 in
theorem open_rowI {W : World} {r : Reach} {b0 : Nat} {v : Value} {d : DataW H} {p : List MemPlace} (hv : Value.okWide Tryz.prog W r b0 37 v)
    (h : DataW.Trod enc Tryz.prog W 0 (fun _ => true) true 37 v d p) : ∃ (A : Option Addr) (cap : Nat) (l : List Fields), v = .slice A l.length cap ∧ FAt W W.heap.size A l ∧ (∀ x ∈ l, x.Ok) ∧ l.length ≤ maxLen ∧ l.length ≤ cap := by
  obtain ⟨fuel, hf⟩ := h
  obtain ⟨a0, n0, c0, rfl⟩ := okWide_slice Tryz.underlying37 hv
  rcases open_slice Tryz.underlying37 hf with ⟨hc, _⟩ | ⟨a, len, cap, m, n, D, Pl, hc, _, hl, hm, hmm, hx, hi⟩
  · simp [Value.cells] at hc
    obtain ⟨rfl, rfl, rfl⟩ := hc
    exact ⟨none, 0, [], rfl, fun h => absurd rfl h, by simp, Nat.zero_le _, Nat.zero_le _⟩
  · simp [Value.cells] at hc
    obtain ⟨rfl, rfl, rfl⟩ := hc
    simp only [if_true] at hmm
    subst hmm
    have hcc : Tryz.prog.cellsOf 23 = 9 := by kernel_rfl
    have each : ∀ i, i < n0 → ∃ y : Fields, y.Ok ∧ ∀ (j : Nat) (v : Value), y.cells[j]? = some v → W.cell? ((a.add (i * 9)).add j) = some v := by
      intro i hin
      obtain ⟨cs, h1, h2⟩ := hi i (by omega)
      rw [hcc] at h1
      obtain ⟨_, hlen, hat⟩ := World.cells?_some h1
      obtain ⟨y, hy, rfl⟩ := open_cellsI hlen h2
      refine ⟨y, hy, fun j v hv => ?_⟩
      have hj : j < 9 := by have := (Array.getElem?_eq_some_iff.1 hv).1; simpa using this
      rw [hat j hj]
      simpa using hv
    have hch : ∃ F : Nat → Fields, ∀ i, i < n0 → (F i).Ok ∧ ∀ (j : Nat) (v : Value), (F i).cells[j]? = some v → W.cell? ((a.add (i * 9)).add j) = some v := by
      refine ⟨fun i => if h : i < n0 then Classical.choose (each i h) else zeroF, fun i hin => ?_⟩
      simp only [hin, dif_pos]
      exact Classical.choose_spec (each i hin)
    obtain ⟨F, hF⟩ := hch
    refine ⟨some a, _, (List.range n0).map F, by rw [List.length_map, List.length_range], ?_, ?_, by simp; omega, by simpa using hl⟩
    · intro hne
      have hn0 : 0 < n0 := by
        rcases Nat.eq_zero_or_pos n0 with e | e
        · subst e; simp at hne
        · exact e
      have k0 := (hF 0 hn0).2 0 _ rfl
      have hsp : a.spot = none := by
        have : (a.add (0 * 9)).add 0 = a := by simp [Addr.add]
        rw [this] at k0
        exact oneNoneF k0
      have hab : a.block < W.heap.size := by
        have := World.block_lt_of_cell? W _ k0
        simpa [Addr.add] using this
      obtain ⟨ab, ao, asp⟩ := a
      simp only at hsp hab
      subst hsp
      have hadd : ∀ m n, (⟨ab, m, none⟩ : Addr).add n = ⟨ab, m + n, none⟩ := fun m n => by unfold Addr.add; split <;> simp_all
      refine ⟨ab, ao, rfl, hab, fun i x hx j v hv => ?_⟩
      have hin : i < n0 := by
        have := (List.getElem?_eq_some_iff.1 hx).1
        simpa using this
      have hx' : F i = x := by simpa [hin] using hx
      have := (hF i hin).2 j v (by rw [hx']; exact hv)
      rw [hadd, hadd] at this
      exact this
    · intro x hx
      obtain ⟨i, hin, rfl⟩ := List.mem_map.1 hx
      exact (hF i (by simpa using hin)).1
end
end Go.Proofs.YthbdmlcbdibiiaaGreatDoor
/- MachineReads: its cases. -/
namespace Go.Proofs.YthbdmlcbdibiiaaGreatDoor
open Go.RowKit Go.Mem Go.Sx
namespace rds
def insL : SVal := cksT (mex.v 40) (.num 0) 0 (rowK 1001)
def itT : Tm := .op1 .not (.op2 .eq (.op2 (.and .i64) (mex.v 30) (.num 15)) (.num 0))
def hsT (n : Nat) : List Tm := (List.range' 123 n).map mex.v
def bestS (n : Nat) : Go.Sx.Spec := fun args h pc => match args with
  | [.agg i, .bool t] => match decide (i = insL), decide (t = itT) with
    | true, true => match n with
      | 0 => .leaf ⟨.tup (.cons .nilslice (.cons (.int .i64 (.num 6)) .nil)), h, pc⟩
      | n => .leaf ⟨.tup (.cons (.slice h.length 0 n (.of h.length)) (.cons (.int .i64 (.num 0)) .nil)), h ++ [some (rowBlk 3 (hsT n))], pc⟩
    | _, _ => .fail "arguments"
  | _ => .fail "arguments"
def byteT (i : Nat) (r : Tm) : Tm := .op2 .cat (.op1 .chr (.op1 (.conv .u8) (mex.v i))) (.op2 .cat (.op1 .chr (.op1 (.conv .u8) (.op2 (.shr .i64) (mex.v i) (.num 8)))) r)
def codeT (n : Nat) : Tm := match n with | 1 => byteT 123 (.text []) | _ => byteT 123 (byteT 124 (.text []))
def regs0 : List Tm := ((List.range' 10 15).map fun i => Tm.op1 (.conv .u32) (mex.v i)) ++ [.num 0]
def core0 : List Tm := regs0 ++ [mex.v 26, mex.v 27, mex.v 28, mex.v 29, mex.v 30]
def Q (n : Nat) (_pc : Tm) (ts : List Tm) : Option (List Tm × Tm × List Tm) :=
  match decide (ts = codeT n :: (core0 ++ [mex.v 31])) with
  | true => some (stl.ansT 100, mex.v 121, [mex.v 122])
  | false => none
def insT : List Tm := (List.range 8).map (fun j => Tm.op1 (.conv .i64) (.op1 (.nth j) (.op2 .lget (mex.v 40) (.num 0)))) ++ [.op1 (.nth 8) (.op2 .lget (mex.v 40) (.num 0))]
def argT (n : Nat) : List Tm := insT ++ ([.num (2 * n), codeT n] ++ (core0 ++ [mex.v 31]))
def execS (n : Nat) : Go.Sx.Spec := fun args h pc => match args with
  | [.agg i, s, .str c, .agg m] => match decide ((lstS i).length = 9 ∧ (lstS m).length = 22), matchA h (xsPat 1) (lstS i ++ ([s] ++ ([.str c] ++ lstS m))) with
    | true, some ts => match decide (ts = argT n) with
      | true => .leaf ⟨.tup (.cons (coreV (stl.ansT 100) h.length) (.cons (.int .i64 (mex.v 122)) .nil)), h ++ [some (absNew 2 (mex.v 121))], pc⟩
      | false => .fail "arguments"
    | _, _ => .fail "arguments"
  | _ => .fail "arguments"
def tab (n : Nat) : List (Nat × Go.Sx.Spec) := [(13, bestS n), (15, coreS 1 0 (Q n)), (10, execS n), (27, sameSpec), (9, xls.awakeS)]
def S (n : Nat) : Specs := fun f => findTab f (tab n)
noncomputable def fL : Nat := 4
def args : List SVal := [.abs 1, mex.core]
def heap0 : Heap := mex.heap0 ++ [some { cells := .nil, elem := 0, spare := none, abs := some (false, 1001, mex.v 40) }]
def lenT : Tm := .op1 .llen (mex.v 40)
def memT : Tm := .op1 .llen (mex.v 31)
def some' : List Tm := [mex.no (mex.eq lenT (.num 0)), mex.no (mex.lt (.num 10) lenT), mex.le memT (.num 100), mex.lt (.num 0) lenT]
noncomputable def goes (S : Specs) (l : List Tm) : Bool := isTT (callT (mex.cxm false) S (run (mex.cxm false) S 3000) fL args heap0 (l.foldr mkAnd (.bit true)))
def tab0 : List (Nat × Go.Sx.Spec) := [(13, bestS 0), (9, xls.awakeS)]
def S0 : Specs := fun f => findTab f tab0
set_option maxRecDepth 100000 in
theorem none' : goes S0 some' = true := by kernel_rfl
set_option maxRecDepth 100000 in
theorem one : goes (S 1) some' = true := by kernel_rfl
set_option maxRecDepth 100000 in
theorem two : goes (S 2) some' = true := by kernel_rfl
set_option maxRecDepth 100000 in
theorem empty : goes mxl.S [mex.eq lenT (.num 0)] = true := by kernel_rfl
set_option maxRecDepth 100000 in
theorem many : goes mxl.S [mex.no (mex.eq lenT (.num 0)), mex.lt (.num 10) lenT] = true := by kernel_rfl
set_option maxRecDepth 100000 in
theorem large : goes mxl.S [mex.no (mex.eq lenT (.num 0)), mex.no (mex.lt (.num 10) lenT), mex.no (mex.le memT (.num 100))] = true := by kernel_rfl
end rds
end Go.Proofs.YthbdmlcbdibiiaaGreatDoor
/- MachineReads at all data. -/
namespace Go.Proofs.YthbdmlcbdibiiaaGreatDoor
open Go.RowKit Go.Mem Go.Sx Go.Deep
set_option maxRecDepth 100000 in
theorem wr64 {n : Int} (h1 : -2 ^ 63 ≤ n) (h2 : n < 2 ^ 63) : IntKind.i64.wrap n = n := wrap_eq (k := .i64) ⟨h1, h2⟩ (fun _ _ => rfl)
def packB : List Int → List UInt8
  | [] => []
  | h :: r => UInt8.ofNat (IntKind.u8.wrap h).toNat :: UInt8.ofNat (IntKind.u8.wrap (shrOp .i64 h 8)).toNat :: packB r
set_option maxRecDepth 100000 in
theorem packB_len : ∀ l : List Int, (packB l).length = 2 * l.length
  | [] => rfl
  | h :: r => by simp only [packB, List.length_cons, packB_len r]; omega
set_option maxRecDepth 100000 in
theorem half_pack {h : Int} (h0 : 0 ≤ h) (h1 : h < 65536) : halfB (UInt8.ofNat (IntKind.u8.wrap h).toNat) (UInt8.ofNat (IntKind.u8.wrap (shrOp .i64 h 8)).toNat) = h := by
  obtain ⟨n, rfl⟩ := Int.eq_ofNat_of_zero_le h0
  have e1 : (IntKind.u8.wrap (n : Int)).toNat = n % 256 := by
    show ((n : Int) % 256).toNat = n % 256
    omega
  have e2 : (IntKind.u8.wrap (shrOp .i64 (n : Int) 8)).toNat = n / 256 := by
    show (((n : Int).fdiv 256) % 256).toNat = n / 256
    rw [Int.fdiv_eq_ediv_of_nonneg _ (by omega)]
    omega
  have t1 : (UInt8.ofNat (n % 256)).toNat = n % 256 := by simp
  have t2 : (UInt8.ofNat (n / 256)).toNat = n / 256 := by simp; omega
  rw [e1, e2]
  unfold halfB
  rw [t1, t2]
  have w1 : IntKind.i64.wrap ((n % 256 : Nat) : Int) = ((n % 256 : Nat) : Int) := wr64 (by omega) (by omega)
  have w2 : IntKind.i64.wrap ((n / 256 : Nat) : Int) = ((n / 256 : Nat) : Int) := wr64 (by omega) (by omega)
  have w3 : IntKind.i64.wrap (((n / 256 : Nat) : Int) * 256) = ((n / 256 * 256 : Nat) : Int) := by rw [wr64 (by omega) (by omega)]; simp
  rw [w1, w2, w3]
  show IntKind.i64.wrap (BitVec.ofInt 64 ((n % 256 : Nat) : Int) ||| BitVec.ofInt 64 ((n / 256 * 256 : Nat) : Int)).toNat = (n : Int)
  have e : (BitVec.ofInt 64 ((n % 256 : Nat) : Int) ||| BitVec.ofInt 64 ((n / 256 * 256 : Nat) : Int)).toNat = n := by
    rw [BitVec.toNat_or, BitVec.toNat_ofInt, BitVec.toNat_ofInt]
    have a1 : (((n % 256 : Nat) : Int) % ((2 ^ 64 : Nat) : Int)).toNat = n % 256 := by omega
    have a2 : (((n / 256 * 256 : Nat) : Int) % ((2 ^ 64 : Nat) : Int)).toNat = n / 256 * 256 := by omega
    rw [a1, a2]
    have := Nat.two_pow_add_eq_or_of_lt (show n % 256 < 2 ^ 8 by omega) (n / 256)
    rw [Nat.or_comm, show n / 256 * 256 = 2 ^ 8 * (n / 256) by omega, ← this]
    omega
  rw [e]
  exact wr64 (by omega) (by omega)
set_option maxRecDepth 100000 in
theorem unp_pack : ∀ l : List Int, (∀ a ∈ l, 0 ≤ a ∧ a < 65536) → unpB (packB l) = l
  | [], _ => rfl
  | h :: r, hl => by
    have h1 := hl h (List.mem_cons_self ..)
    simp only [packB, unpB, unp_pack r fun a ha => hl a (List.mem_cons_of_mem _ ha), half_pack h1.1 h1.2]
set_option maxRecDepth 100000 in
theorem fetch_best {x : Fields} (hx : x.Ok) {it : Int} (he : (bestOf x (itT it)).2 = 0) : fetchF (packB (bestOf x (itT it)).1) 0 it = (x, 2 * ((bestOf x (itT it)).1.length : Int)) := by
  obtain ⟨n1, n2, hh, hd⟩ := best_law hx he
  generalize (bestOf x (itT it)).1 = l at n1 n2 hh hd
  have hp := packB_len l
  have hl : fetchL (packB l) 0 = l := by
    unfold fetchL
    rw [show (0 : Int).toNat = 0 from rfl, List.drop_zero]
    split
    · rw [List.take_of_length_le (by omega), unp_pack l hh]
    · rw [List.take_of_length_le (by omega), unp_pack l hh]
  have hs : standB (packB l) 0 = true := by
    unfold standB
    have e : bits BinOp.and IntKind.u32 0 1 = 0 := by decide
    rw [e, decide_eq_true (show (0 : Int) < ((packB l).length : Int) by omega), decide_eq_true (show ((0 : Int) + 1) % 4294967296 < ((packB l).length : Int) by omega)]
    rfl
  have hd := hd []
  rw [List.append_nil] at hd
  unfold fetchF
  rw [hs, hl, hd]
  rfl
namespace rds
noncomputable def v (l : List Fields) (hs : List Int) (d d' : CoreD) (o : Int) (i : Nat) : Sc :=
  if i = 40 then .list (l.map fun x => .list x.scs) else if i = 123 then .int (hs.getD 0 0) else if i = 124 then .int (hs.getD 1 0) else stl.v litF [] 0 d d' o i
end rds
noncomputable def envR (l : List Fields) (hs : List Int) (d d' : CoreD) (o : Int) (ab : Abs) : Env := ⟨rds.v l hs d d' o, stl.F, fun _ => undef, ab⟩
section
variable {l : List Fields} {hs : List Int} {d d' : CoreD} {o : Int}
set_option maxRecDepth 100000 in
theorem hs_has (hh : ∀ a ∈ hs, 0 ≤ a ∧ a < 65536) (i : Nat) : kHas .i64 (hs.getD i 0) := by
  rw [List.getD_eq_getElem?_getD]
  cases h : hs[i]? with
  | none => exact zero_has
  | some a =>
    have := hh a (List.mem_of_getElem? h)
    show -2 ^ 63 ≤ a ∧ a < 2 ^ 63
    omega
set_option maxRecDepth 100000 in
theorem rdsv_has (hh : ∀ a ∈ hs, 0 ≤ a ∧ a < 65536) (hd : d.Ok) (hd' : d'.Ok) (ho : o = 0 ∨ o = 1 ∨ o = 2) (w : World) (i : Nat) : kHas .i64 (rds.v l hs d d' o i).asInt ∧ (rds.v l hs d d' o i).asStr.length ≤ 1000000 := by
  unfold rds.v
  split
  · exact ⟨zero_has, Nat.zero_le _⟩
  · split
    · exact ⟨hs_has hh 0, Nat.zero_le _⟩
    · split
      · exact ⟨hs_has hh 1, Nat.zero_le _⟩
      · exact stlv_has litF_ok (Nat.zero_le _) zero_has hd hd' ho w i
set_option maxRecDepth 100000 in
theorem envR_vars (hh : ∀ a ∈ hs, 0 ≤ a ∧ a < 65536) (hd : d.Ok) (hd' : d'.Ok) (ho : o = 0 ∨ o = 1 ∨ o = 2) (w : World) : VarsOk (envR l hs d d' o (mchAbs (ownK w))) ∧ NilOk (envR l hs d d' o (mchAbs (ownK w))) :=
  ⟨⟨fun i => (rdsv_has hh hd hd' ho w i).1, stlF_has⟩, mch_nil _ (ownK w) rfl fun i => (rdsv_has hh hd hd' ho w i).2⟩
def zeroPc (d : CoreD) : CoreD := { d with R := d.R.set 15 0 }
set_option maxRecDepth 100000 in
theorem zeroPc_ok (hd : d.Ok) : (zeroPc d).Ok := by
  obtain ⟨h1, h2, h3, h4⟩ := hd
  refine ⟨by simp [zeroPc, h1], fun r hr => ?_, h3, h4⟩
  rcases List.mem_or_eq_of_mem_set hr with h | rfl
  · exact h2 r h
  · show (0 : Int) ≤ 0 ∧ (0 : Int) < 2 ^ 32
    omega
set_option maxRecDepth 100000 in
theorem zeroPc_15 (hd : d.Ok) : (zeroPc d).R.getD 15 0 = 0 := by
  have h1 := hd.len
  show (d.R.set 15 0).getD 15 0 = 0
  rw [List.getD_eq_getElem?_getD, List.getElem?_set_self (by omega)]
  rfl
set_option maxRecDepth 100000 in
theorem core0_cd (hd : d.Ok) (ab : Abs) (tl : List Sc) : cdOf ((rds.core0 ++ [mex.v 31]).map (·.den (envR l hs d d' o ab)) ++ tl) = zeroPc d := by
  have e : cdOf ((rds.core0 ++ [mex.v 31]).map (·.den (envR l hs d d' o ab)) ++ tl) = ⟨((List.range 16).map (fun i => IntKind.u32.wrap (d.R.getD i 0))).set 15 0, d.n, d.z, d.c, d.v, d.it, scCl (clSc d.l)⟩ := rfl
  rw [e, regs_wrap hd.len hd.R, scCl_cl]
  rfl
set_option maxRecDepth 100000 in
theorem ans_cd (hd' : d'.Ok) (ab : Abs) : cdOf ((stl.ansT 100).map (·.den (envR l hs d d' o ab)) ++ [(mex.v 121).den (envR l hs d d' o ab)]) = d' := by
  have e : cdOf ((stl.ansT 100).map (·.den (envR l hs d d' o ab)) ++ [(mex.v 121).den (envR l hs d d' o ab)]) = ⟨(List.range 16).map (fun i => IntKind.u32.wrap (d'.R.getD i 0)), d'.n, d'.z, d'.c, d'.v, d'.it, scCl (clSc d'.l)⟩ := rfl
  rw [e, regs_wrap hd'.len hd'.R, scCl_cl]
set_option maxRecDepth 100000 in
theorem code_den {n : Nat} (hn : hs.length = n) (h1 : 1 ≤ n) (h2 : n ≤ 2) (ab : Abs) : ((rds.codeT n).den (envR l hs d d' o ab)).asStr = packB hs := by
  match hs, n, hn, h1, h2 with
  | [a], 1, _, _, _ => rfl
  | [a, b], 2, _, _, _ => rfl
  | [], 0, _, h1, _ => omega
set_option maxRecDepth 100000 in
theorem rdsQ_ok {n : Nat} {x : Fields} {s : Int} (hn : hs.length = n) (h1 : 1 ≤ n) (h2 : n ≤ 2) (hd : d.Ok) (hO : Outcome x s (packB hs) (zeroPc d) d' o) (hSt : StAns stl.fS (packB hs) (zeroPc d) [] d' [o]) (ab : Abs) :
    ∀ pc ts r t os, (pc.den (envR l hs d d' o ab)).asBool = true → rds.Q n pc ts = some (r, t, os) → (cdOf ((ts.map (·.den (envR l hs d d' o ab))).drop 1)).Ok → (cdOf ((ts.map (·.den (envR l hs d d' o ab))).drop 1)).l.length ≤ 4294967296 →
    ∃ D : CoreD, D = cdOf (r.map (·.den (envR l hs d d' o ab)) ++ [t.den (envR l hs d d' o ab)]) ∧ t.den (envR l hs d d' o ab) = clSc D.l ∧ InR D.l ∧ D.l.length ≤ 4294967296 ∧ Canon D.l ∧
    StAns stl.fS (get (ts.map (·.den (envR l hs d d' o ab))) 0).asStr (cdOf ((ts.map (·.den (envR l hs d d' o ab))).drop 1)) (((ts.map (·.den (envR l hs d d' o ab))).drop 23).map Sc.asInt) D (os.map fun o' => (o'.den (envR l hs d d' o ab)).asInt) := by
  intro pc ts r t os _ hq _ _
  unfold rds.Q at hq
  split at hq
  · rename_i hts
    have hts := of_decide_eq_true hts
    subst hts
    simp only [Option.some.injEq, Prod.mk.injEq] at hq
    obtain ⟨rfl, rfl, rfl⟩ := hq
    have e1 : ((rds.codeT n :: (rds.core0 ++ [mex.v 31])).map (·.den (envR l hs d d' o ab))).drop 1 = (rds.core0 ++ [mex.v 31]).map (·.den (envR l hs d d' o ab)) ++ [] := by simp
    have e2 : ((rds.codeT n :: (rds.core0 ++ [mex.v 31])).map (·.den (envR l hs d d' o ab))).drop 23 = [] := rfl
    have e3 : (get ((rds.codeT n :: (rds.core0 ++ [mex.v 31])).map (·.den (envR l hs d d' o ab))) 0).asStr = packB hs := code_den hn h1 h2 ab
    rw [e1, core0_cd hd, e2, e3]
    exact ⟨d', (ans_cd hO.ok ab).symm, rfl, hO.ok.l, hO.len, hO.canon, hSt⟩
  · cases hq
set_option maxRecDepth 100000 in
theorem execR_ok {n : Nat} {x : Fields} {r : List Fields} {w0 : World} (V : VarsOk (envR (x :: r) hs d d' o (mchAbs (ownK w0)))) (N : NilOk (envR (x :: r) hs d d' o (mchAbs (ownK w0)))) (hn : hs.length = n) (h1 : 1 ≤ n) (h2 : n ≤ 2) (hx : x.Ok) (hd : d.Ok)
    (hO : Outcome x (2 * (n : Int)) (packB hs) (zeroPc d) d' o) : SpecOk (envR (x :: r) hs d d' o (mchAbs (ownK w0))) 10 (rds.execS n) := by
  intro args h pc y hpc hy
  unfold rds.execS at hy
  split at hy
  · rename_i i sz c m
    split at hy
    · rename_i ts hdec hts
      split at hy
      · rename_i hta
        simp only [Tree.get, Option.some.injEq] at hy
        subst hy
        have hta := of_decide_eq_true hta
        have hdec := of_decide_eq_true hdec
        intro K w1 ι w H hsc
        have hA := matchA_ok V N H hts
        obtain ⟨a, sz', C', D, mem, mv, ha, hsz, hR16, hRk, hit, ⟨F, hP⟩, hdl, eX, eS, eC, eD, iv', cv, li, lc, hvs, hiv, hcv⟩ := xs_flat hA
        subst hta
        have hX : xsX ((rds.argT n).map (·.den (envR (x :: r) hs d d' o (mchAbs (ownK w0))))) = x := by
          have e : xsX ((rds.argT n).map (·.den (envR (x :: r) hs d d' o (mchAbs (ownK w0))))) = ⟨IntKind.i64.wrap x.x0, IntKind.i64.wrap x.x1, IntKind.i64.wrap x.x2, IntKind.i64.wrap x.x3, IntKind.i64.wrap x.x4, IntKind.i64.wrap x.x5, IntKind.i64.wrap x.x6, IntKind.i64.wrap x.x7, x.b⟩ := rfl
          rw [e, wr64 hx.1.1 hx.1.2, wr64 hx.2.1 hx.2.2, wr64 hx.3.1 hx.3.2, wr64 hx.4.1 hx.4.2, wr64 hx.5.1 hx.5.2, wr64 hx.6.1 hx.6.2, wr64 hx.7.1 hx.7.2, wr64 hx.8.1 hx.8.2]
        have hS : sz' = 2 * (n : Int) := by
          rw [← eS]
          rfl
        have hC : C'.asStr = packB hs := by rw [← eC]; exact code_den hn h1 h2 _
        have hD : xsD ((rds.argT n).map (·.den (envR (x :: r) hs d d' o (mchAbs (ownK w0))))) = zeroPc d := by
          unfold xsD
          have e1 : ((((rds.argT n).map (·.den (envR (x :: r) hs d d' o (mchAbs (ownK w0))))).drop 11).take 16).map Sc.asInt = ((List.range 16).map (fun i => IntKind.u32.wrap (d.R.getD i 0))).set 15 0 := rfl
          have e2 : get ((rds.argT n).map (·.den (envR (x :: r) hs d d' o (mchAbs (ownK w0))))) 32 = clSc d.l := rfl
          rw [e1, e2, scCl_cl, regs_wrap hd.len hd.R]
          rfl
        have hXa : a = x := eX.symm.trans hX
        have hDa : D = zeroPc d := eD.symm.trans hD
        subst hXa; subst hS; subst hDa
        rcases hP with ⟨_, l, A, cap, h1, h2, h3, h4, h5, _⟩ | ⟨hk2, _⟩
        · have hl : (zeroPc d).l = l := by rw [hdl, h1, scCl_cl]
          simp only [List.map_append, List.map_cons, List.map_nil] at hvs
          obtain ⟨q1, q2⟩ := List.append_inj hvs (by rw [List.length_map, hdec.1, li])
          simp only [List.cons_append, List.nil_append, List.cons.injEq] at q2
          obtain ⟨q2, q3, q4⟩ := q2
          rw [hC] at q3
          have E := hO.e w (laid_hr H) A cap (by rw [hl]; exact h3)
          have hargs : ([SVal.agg i, sz, .str c, .agg m].map (·.conc (envR (a :: r) hs d d' o (mchAbs (ownK w0))) ι)).toArray = #[a.val, .int .i64 (2 * (n : Int)), .string ⟨(packB hs).toArray⟩, (zeroPc d).val (.slice A (zeroPc d).l.length cap)] := by
            have e1 : (SVal.agg i).conc (envR (a :: r) hs d d' o (mchAbs (ownK w0))) ι = a.val := by rw [← hiv, ← q1]; simp only [SVal.conc, lstS_conc]
            have e2 : (SVal.agg m).conc (envR (a :: r) hs d d' o (mchAbs (ownK w0))) ι = (zeroPc d).val (.slice A (zeroPc d).l.length cap) := by rw [hl, ← h2, ← hcv, ← q4]; simp only [SVal.conc, lstS_conc]
            simp only [List.map_cons, List.map_nil, e1, e2, q2, q3]
          rw [hargs]
          exact core_answer (d' := d') rfl H hpc rfl (ans_cd hO.ok _).symm rfl hO.ok.l hO.len hO.canon E
        · omega
      · simp [Tree.get] at hy
    · simp [Tree.get] at hy
  · simp [Tree.get] at hy
set_option maxRecDepth 100000 in
theorem bestR_ok {n : Nat} {x : Fields} {r : List Fields} {w0 : World} (hx : x.Ok) (hn : hs.length = n) (hb : bestOf x (itT d.it) = (hs, if n = 0 then 6 else 0)) : SpecOk (envR (x :: r) hs d d' o (mchAbs (ownK w0))) 13 (rds.bestS n) := by
  intro args h pc y hpc hy
  unfold rds.bestS at hy
  split at hy
  · rename_i i t
    split at hy
    · rename_i hi ht
      have hi := of_decide_eq_true hi
      have ht := of_decide_eq_true ht
      subst hi; subst ht
      intro K w1 ι w H hsc
      have e1 : (SVal.agg rds.insL).conc (envR (x :: r) hs d d' o (mchAbs (ownK w0))) ι = x.val := by
        have e : (SVal.agg rds.insL).conc (envR (x :: r) hs d d' o (mchAbs (ownK w0))) ι = Fields.val ⟨IntKind.i64.wrap x.x0, IntKind.i64.wrap x.x1, IntKind.i64.wrap x.x2, IntKind.i64.wrap x.x3, IntKind.i64.wrap x.x4, IntKind.i64.wrap x.x5, IntKind.i64.wrap x.x6, IntKind.i64.wrap x.x7, x.b⟩ := rfl
        rw [e, wr64 hx.1.1 hx.1.2, wr64 hx.2.1 hx.2.2, wr64 hx.3.1 hx.3.2, wr64 hx.4.1 hx.4.2, wr64 hx.5.1 hx.5.2, wr64 hx.6.1 hx.6.2, wr64 hx.7.1 hx.7.2, wr64 hx.8.1 hx.8.2]
      have e2 : (SVal.bool rds.itT).conc (envR (x :: r) hs d d' o (mchAbs (ownK w0))) ι = .bool (itT d.it) := rfl
      have hcall := best_any hx (itT d.it) w (laid_hr H)
      rw [hb] at hcall
      simp only [List.map_cons, List.map_nil, e1, e2]
      split at hy
      · simp only [Tree.get, Option.some.injEq] at hy
        subst hy
        obtain rfl := List.eq_nil_of_length_eq_zero hn
        refine Calls.mono (R := _) hcall ?_
        rintro e w' ⟨v, rfl, hown, hbl, hv⟩
        obtain rfl := hv rfl
        exact ⟨ι, Nm.Ext.refl _ _, Nat.le_refl _, H.under hbl, rfl, hpc, rfl⟩
      · rename_i n0 hn0
        simp only [Tree.get, Option.some.injEq] at hy
        subst hy
        have hne : n ≠ 0 := hn0
        rw [if_neg hne] at hcall
        refine Calls.mono (R := _) hcall ?_
        rintro e w' ⟨v, rfl, hown, hbl, _⟩
        simp only at hown
        rw [hn] at hown
        rcases hown.2 with ⟨_, h0⟩ | ⟨g, cap, cur, rfl, hg, hh, _, _, hs', ht⟩
        · omega
        · have hf : (ι.put h.length g cap).foot h.length = (· = g) := by simp [Nm.put]
          have hbk : (ι.put h.length g cap).blk h.length = g := by simp [Nm.put]
          have hcp : (ι.put h.length g cap).cap h.length = cap := by simp [Nm.put]
          refine ⟨ι.put h.length g cap, Nm.ext_put ι _ _ _, by simp, ?_, by simp [SVal.sc], hpc, ?_⟩
          · refine H.new _ (Nm.ext_put ι _ _ _) hbl.os hbl.tape hbl.output hbl.size hbl.block (fun q hq => by rw [hf] at hq; subst hq; exact hg) ?_ (sc_ints _ _)
            unfold Blk.Ok rowBlk
            simp only
            refine ⟨by rw [hf, hbk], cur, by rw [hbk]; exact hh, ?_⟩
            unfold Blk.Fits
            simp only
            rw [hcp]
            refine ⟨⟨cur.toList.drop (n * 1), ?_⟩, hs'⟩
            rw [concL_ints]
            have e3 : ((rds.hsT n).map fun t => Value.int .i64 (t.den (envR (x :: r) hs d d' o (mchAbs (ownK w0)))).asInt) = encI hs := by
              obtain ⟨_, n2, _⟩ := best_law (it := itT d.it) hx (by rw [hb, if_neg hne])
              rw [hb] at n2
              simp only at n2
              match hs, n, hn, n2, hne with
              | [a], 1, _, _, _ => rfl
              | [a, b], 2, _, _, _ => rfl
              | [], 0, _, _, h => exact (h rfl).elim
            rw [e3, ← ht, List.take_append_drop]
          · simp [SVal.conc, SVal.concL, Nm.put, Cap.ev, Tm.den]
    · simp [Tree.get] at hy
  · simp [Tree.get] at hy
end
set_option maxRecDepth 100000 in
theorem law_runG {ρ : Env} {S : Specs} (hS : S.Ok ρ (mex.cxm false)) (hB : ∀ f, S f ≠ none → ∃ fn c, cx.P.funcs[f]? = some fn ∧ fn.body = some c) {l : List Tm} (hT : AllT ρ l) (hg : rds.goes S l = true)
    {w : World} {ι : Nm} (H : HR ρ cx.globs (ownK w) w ι rds.heap0 w) {vals : List Value} (hv : rds.args.map (·.conc ρ ι) = vals) :
    Calls Tryz.prog rds.fL vals.toArray w fun e w' => e = .returned (.bool true) ∧ Below w.heap.size w w' := by
  unfold rds.goes at hg
  obtain ⟨y, h1, h2⟩ := isTT_get ρ _ hg
  have hc := call_ok (cxm_ok false) hS hB (conj_den _ _ hT) h1
  have := hc (ownK w) w _ w H (by
    intro v hv
    simp only [rds.args, List.mem_cons, List.not_mem_nil, or_false] at hv
    rcases hv with rfl | rfl <;> rfl)
  have this : Calls Tryz.prog rds.fL (rds.args.map (·.conc ρ ι)).toArray w _ := this
  rw [hv] at this
  refine Calls.mono (R := _) this ?_
  rintro e w' ⟨ι', _, _, H', _, _, rfl⟩
  rw [h2]
  exact ⟨by simp [SVal.conc, Tm.den], H'.grown⟩
def ιR (vm vr : OneV) : Nm := ⟨fun _ => 0, fun _ => 0, fun n => if n = 0 then vm else vr, fun _ _ => False⟩
set_option maxRecDepth 100000 in
theorem heapR_hr {ρ : Env} {w : World} (hw : Laid w) (hbase : ∀ q, ρ.ab.B q → ownK w q) {vm vr : OneV} (hm : ∃ F, ρ.ab.P 1 (ρ.v 31) vm.v F w ∧ ∀ q, F q → ρ.ab.B q) (hr : ∃ F, ρ.ab.P 1001 (ρ.v 40) vr.v F w ∧ ∀ q, F q → ρ.ab.B q) :
    HR ρ cx.globs (ownK w) w (ιR vm vr) rds.heap0 w := by
  have H0 := start ρ hw hbase
  refine ⟨rfl, rfl, rfl, Nat.le_refl _, fun _ _ => rfl, fun _ h => h, hbase, ?_, ?_, fun g cs hg => ?_⟩
  · intro n b hb
    have hn : n = 0 ∨ n = 1 := by
      have := (List.getElem?_eq_some_iff.1 hb).1
      simp [rds.heap0, mex.heap0] at this
      omega
    rcases hn with rfl | rfl
    · simp only [rds.heap0, mex.heap0, List.cons_append, List.nil_append, List.getElem?_cons_zero, Option.some.injEq] at hb
      subst hb
      refine ⟨fun q hq => hq.elim, ?_, rfl⟩
      unfold Blk.Ok
      exact ⟨rfl, fun q hq => hq, hm⟩
    · simp only [rds.heap0, mex.heap0, List.cons_append, List.nil_append, List.getElem?_cons_succ, List.getElem?_cons_zero, Option.some.injEq] at hb
      subst hb
      refine ⟨fun q hq => hq.elim, ?_, rfl⟩
      unfold Blk.Ok
      exact ⟨rfl, fun q hq => hq, hr⟩
  · intro n m b c hb hc q hq
    exact hq.elim
  · obtain ⟨h1, h2, arr, t, fz, h3, h4⟩ := H0.globs g cs hg
    exact ⟨h1, h2, arr, t, fz, h3, by rw [h4]; exact (SVal.conc_ext (n := 0) (fun m hm => by omega) cs h2).2.symm⟩
def rowF (A : Option Addr) (l : List Fields) (q : Nat) : Prop := l ≠ [] ∧ ∃ a, A = some a ∧ q = a.block
set_option maxRecDepth 100000 in
theorem rowF_lt {w : World} {A : Option Addr} {l : List Fields} (h : FAt w w.heap.size A l) {q : Nat} (hq : rowF A l q) : q < w.heap.size := by
  obtain ⟨hn, a, ha, rfl⟩ := hq
  obtain ⟨g, off, e, hg, _⟩ := h hn
  rw [ha] at e
  simp only [Option.some.injEq] at e
  subst e
  exact hg
set_option maxRecDepth 100000 in
theorem cell_ck {y : Fields} (hy : y.Ok) {j : Nat} (hj9 : j < 9) {ck : CK} (hj : (rowK 1001)[j]? = some ck) {v : Value} (hv : y.cells[j]? = some v) : v = ck.val (y.scs.getD j (.int 0)) := by
  obtain ⟨x0, x1, x2, x3, x4, x5, x6, x7, b⟩ := y
  match j, hj9, hj, hv with
  | 0, _, hj, hv => cases hj; cases hv; exact congrArg (Value.int .i64) (wr64 hy.1.1 hy.1.2).symm
  | 1, _, hj, hv => cases hj; cases hv; exact congrArg (Value.int .i64) (wr64 hy.2.1 hy.2.2).symm
  | 2, _, hj, hv => cases hj; cases hv; exact congrArg (Value.int .i64) (wr64 hy.3.1 hy.3.2).symm
  | 3, _, hj, hv => cases hj; cases hv; exact congrArg (Value.int .i64) (wr64 hy.4.1 hy.4.2).symm
  | 4, _, hj, hv => cases hj; cases hv; exact congrArg (Value.int .i64) (wr64 hy.5.1 hy.5.2).symm
  | 5, _, hj, hv => cases hj; cases hv; exact congrArg (Value.int .i64) (wr64 hy.6.1 hy.6.2).symm
  | 6, _, hj, hv => cases hj; cases hv; exact congrArg (Value.int .i64) (wr64 hy.7.1 hy.7.2).symm
  | 7, _, hj, hv => cases hj; cases hv; exact congrArg (Value.int .i64) (wr64 hy.8.1 hy.8.2).symm
  | 8, _, hj, hv => cases hj; cases hv; rfl
set_option maxRecDepth 100000 in
theorem row_okF {w : World} {A : Option Addr} {cap : Nat} {l : List Fields} (h : FAt w w.heap.size A l) (hl : ∀ x ∈ l, x.Ok) : RowOk (rowK 1001) (.list (l.map fun x => .list x.scs)) (.slice A l.length cap) (rowF A l) w := by
  refine ⟨fun q hq => rowF_lt h hq, A, cap, by simp, fun hn => ?_⟩
  have hne : l ≠ [] := by rintro rfl; exact hn rfl
  obtain ⟨g, off, e, hg, hc⟩ := h hne
  refine ⟨g, off, e, ⟨hne, _, e, rfl⟩, fun i j ck hi hj => ?_⟩
  have hi' : i < l.length := by simpa using hi
  have hx : l[i].Ok := hl _ (List.getElem_mem _)
  have hd : ((Sc.list (l.map fun x => Sc.list x.scs)).asList.getD i (.int 0)).asList = l[i].scs := by
    simp [List.getD_eq_getElem?_getD, hi']
  rw [hd]
  have h9 : (rowK 1001).length = 9 := rfl
  rw [h9]
  have hj9 : j < 9 := (List.getElem?_eq_some_iff.1 hj).1
  have hcell : ∃ v, l[i].cells[j]? = some v := ⟨_, Array.getElem?_eq_getElem (show j < l[i].cells.size from hj9)⟩
  obtain ⟨v, hv⟩ := hcell
  rw [hc i l[i] (List.getElem?_eq_getElem hi') j v hv, cell_ck hx hj9 hj hv]
def lenAbsB (B : Nat → Prop) : Abs := ⟨lenP, len_stable, len_lt, len_len, len_rows, B⟩
section
variable {l : List Fields} {d : CoreD}
set_option maxRecDepth 100000 in
theorem reads_in (Aw : AwakeM) {n : Nat} {x : Fields} {r : List Fields} {hs : List Int} {d' : CoreD} {o : Int} {w : World} (hw : Laid w) (hl : ∀ y ∈ x :: r, y.Ok) (hd : d.Ok) (hm : d.l.length ≤ 100) (hlen : (x :: r).length ≤ 10) (hn : hs.length = n) (h1 : 1 ≤ n) (h2 : n ≤ 2) (hh : ∀ a ∈ hs, 0 ≤ a ∧ a < 65536)
    (hb : bestOf x (itT d.it) = (hs, 0)) (hO : Outcome x (2 * (n : Int)) (packB hs) (zeroPc d) d' o) (hSt : StAns stl.fS (packB hs) (zeroPc d) [] d' [o])
    {A0 A : Option Addr} {cap0 cap : Nat} (hA0 : FAt w w.heap.size A0 (x :: r)) (hA : ClAt w w.heap.size A d.l) (hg : rds.goes (rds.S n) rds.some' = true) :
    Calls Tryz.prog rds.fL #[.slice A0 (x :: r).length cap0, d.val (.slice A d.l.length cap)] w fun e w' => e = .returned (.bool true) ∧ Below w.heap.size w w' := by
  have hx := hl x (List.mem_cons_self ..)
  obtain ⟨V, N⟩ := envR_vars (l := x :: r) hh hd hO.ok hO.out w
  have hS : (rds.S n).Ok (envR (x :: r) hs d d' o (mchAbs (ownK w))) (mex.cxm false) := by
    intro f sp hf
    have hmm := findTab_mem hf
    simp only [rds.tab, List.mem_cons, List.not_mem_nil, or_false, Prod.mk.injEq] at hmm
    rcases hmm with ⟨rfl, rfl⟩ | ⟨rfl, rfl⟩ | ⟨rfl, rfl⟩ | ⟨rfl, rfl⟩ | ⟨rfl, rfl⟩
    · exact bestR_ok hx hn (by rw [hb, if_neg (by omega)])
    · exact coreS_ok V N rfl (by omega) (rdsQ_ok hn h1 h2 hd hO hSt _)
    · exact execR_ok V N hn h1 h2 hx hd hO
    · exact same_spec rfl V rfl (fun i => (rdsv_has hh hd hO.ok hO.out w i).2)
    · exact awakeS_ok Aw
  have hT : AllT (envR (x :: r) hs d d' o (mchAbs (ownK w))) rds.some' := by
    have e40 : iv (envR (x :: r) hs d d' o (mchAbs (ownK w))) rds.lenT = ((x :: r).length : Int) := by
      show (((x :: r).map fun x => Sc.list x.scs).length : Int) = _
      rw [List.length_map]
    have e31 : iv (envR (x :: r) hs d d' o (mchAbs (ownK w))) rds.memT = (d.l.length : Int) := by
      show ((clSc d.l).asList.length : Int) = _
      rw [clSc_len]
    have en : ∀ k : Int, iv (envR (x :: r) hs d d' o (mchAbs (ownK w))) (.num k) = k := fun _ => rfl
    refine allT_cons ((tr_not _).2 fun h => ?_) (allT_cons ((tr_not _).2 fun h => ?_) (allT_cons ((tr_le _ _).2 ?_) (allT_cons ((tr_lt _ _).2 ?_) (allT_nil _))))
    · have h : iv (envR (x :: r) hs d d' o (mchAbs (ownK w))) rds.lenT = iv (envR (x :: r) hs d d' o (mchAbs (ownK w))) (.num 0) := (tr_eq _ _).1 h
      rw [e40, en, List.length_cons] at h
      omega
    · have := (tr_lt _ _).1 h
      rw [e40, en] at this
      omega
    · rw [e31, en]
      omega
    · rw [e40, en, List.length_cons]
      omega
  refine law_runG hS (tab_body (tab := rds.tab n) (show ((rds.tab 0).map Prod.fst).all mBody = true by kernel_rfl)) hT hg
    (heapR_hr (vm := ⟨.slice A d.l.length cap, rfl⟩) (vr := ⟨.slice A0 (x :: r).length cap0, rfl⟩) hw (fun q h => h) ⟨fun q => d.l ≠ [] ∧ ∃ a, A = some a ∧ q = a.block, .inl ⟨by omega, d.l, A, cap, rfl, rfl, hA, hd.l, ⟨by omega, fun h => by omega⟩, rfl⟩, ?_⟩
      ⟨rowF A0 (x :: r), .inr ⟨by omega, .inr ⟨by decide, row_okF hA0 hl⟩⟩, fun q hq => rowF_lt hA0 hq⟩) ?_
  · rintro q ⟨h0, a, ha, rfl⟩
    obtain ⟨g, off, e, hg, _⟩ := hA h0
    rw [ha] at e
    simp only [Option.some.injEq] at e
    subst e
    exact hg
  · have e : mex.core.conc (envR (x :: r) hs d d' o (mchAbs (ownK w))) (ιR ⟨.slice A d.l.length cap, rfl⟩ ⟨.slice A0 (x :: r).length cap0, rfl⟩) = d.val (.slice A d.l.length cap) := core_concG litF [] 0 hd stl.F (mchAbs (ownK w)) _
    show [_, mex.core.conc (envR (x :: r) hs d d' o (mchAbs (ownK w))) (ιR ⟨.slice A d.l.length cap, rfl⟩ ⟨.slice A0 (x :: r).length cap0, rfl⟩)] = _
    rw [e]
    rfl
set_option maxRecDepth 100000 in
theorem reads_err (Aw : AwakeM) {x : Fields} {r : List Fields} {w : World} (hw : Laid w) (hl : ∀ y ∈ x :: r, y.Ok) (hd : d.Ok) (hm : d.l.length ≤ 100) (hlen : (x :: r).length ≤ 10) (hb : bestOf x (itT d.it) = ([], 6))
    {A0 A : Option Addr} {cap0 cap : Nat} (hA0 : FAt w w.heap.size A0 (x :: r)) (hA : ClAt w w.heap.size A d.l) :
    Calls Tryz.prog rds.fL #[.slice A0 (x :: r).length cap0, d.val (.slice A d.l.length cap)] w fun e w' => e = .returned (.bool true) ∧ Below w.heap.size w w' := by
  have hx := hl x (List.mem_cons_self ..)
  have hS : rds.S0.Ok (envR (x :: r) [] d d 0 (mchAbs (ownK w))) (mex.cxm false) := by
    intro f sp hf
    have hmm := findTab_mem hf
    simp only [rds.tab0, List.mem_cons, List.not_mem_nil, or_false, Prod.mk.injEq] at hmm
    rcases hmm with ⟨rfl, rfl⟩ | ⟨rfl, rfl⟩
    · exact bestR_ok hx rfl hb
    · exact awakeS_ok Aw
  have hT : AllT (envR (x :: r) [] d d 0 (mchAbs (ownK w))) rds.some' := by
    have e40 : iv (envR (x :: r) [] d d 0 (mchAbs (ownK w))) rds.lenT = ((x :: r).length : Int) := by
      show (((x :: r).map fun x => Sc.list x.scs).length : Int) = _
      rw [List.length_map]
    have e31 : iv (envR (x :: r) [] d d 0 (mchAbs (ownK w))) rds.memT = (d.l.length : Int) := by
      show ((clSc d.l).asList.length : Int) = _
      rw [clSc_len]
    have en : ∀ k : Int, iv (envR (x :: r) [] d d 0 (mchAbs (ownK w))) (.num k) = k := fun _ => rfl
    refine allT_cons ((tr_not _).2 fun h => ?_) (allT_cons ((tr_not _).2 fun h => ?_) (allT_cons ((tr_le _ _).2 ?_) (allT_cons ((tr_lt _ _).2 ?_) (allT_nil _))))
    · have h : iv (envR (x :: r) [] d d 0 (mchAbs (ownK w))) rds.lenT = iv (envR (x :: r) [] d d 0 (mchAbs (ownK w))) (.num 0) := (tr_eq _ _).1 h
      rw [e40, en, List.length_cons] at h
      omega
    · have := (tr_lt _ _).1 h
      rw [e40, en] at this
      omega
    · rw [e31, en]
      omega
    · rw [e40, en, List.length_cons]
      omega
  refine law_runG hS (tab_body (tab := rds.tab0) (show (rds.tab0.map Prod.fst).all mBody = true by kernel_rfl)) hT rds.none'
    (heapR_hr (vm := ⟨.slice A d.l.length cap, rfl⟩) (vr := ⟨.slice A0 (x :: r).length cap0, rfl⟩) hw (fun q h => h) ⟨fun q => d.l ≠ [] ∧ ∃ a, A = some a ∧ q = a.block, .inl ⟨by omega, d.l, A, cap, rfl, rfl, hA, hd.l, ⟨by omega, fun h => by omega⟩, rfl⟩, ?_⟩
      ⟨rowF A0 (x :: r), .inr ⟨by omega, .inr ⟨by decide, row_okF hA0 hl⟩⟩, fun q hq => rowF_lt hA0 hq⟩) ?_
  · rintro q ⟨h0, a, ha, rfl⟩
    obtain ⟨g, off, e, hg, _⟩ := hA h0
    rw [ha] at e
    simp only [Option.some.injEq] at e
    subst e
    exact hg
  · have e : mex.core.conc (envR (x :: r) [] d d 0 (mchAbs (ownK w))) (ιR ⟨.slice A d.l.length cap, rfl⟩ ⟨.slice A0 (x :: r).length cap0, rfl⟩) = d.val (.slice A d.l.length cap) := core_concG litF [] 0 hd stl.F (mchAbs (ownK w)) _
    show [_, mex.core.conc (envR (x :: r) [] d d 0 (mchAbs (ownK w))) (ιR ⟨.slice A d.l.length cap, rfl⟩ ⟨.slice A0 (x :: r).length cap0, rfl⟩)] = _
    rw [e]
    rfl
set_option maxRecDepth 100000 in
theorem reads_out (Aw : AwakeM) {w : World} (hw : Laid w) (hl : ∀ y ∈ l, y.Ok) (hd : d.Ok) {A0 A : Option Addr} {cap0 cap : Nat} (hA0 : FAt w w.heap.size A0 l) {ts : List Tm} (hT : AllT (envR l [] d d 0 (lenAbsB (ownK w))) ts) (hg : rds.goes mxl.S ts = true) :
    Calls Tryz.prog rds.fL #[.slice A0 l.length cap0, d.val (.slice A d.l.length cap)] w fun e w' => e = .returned (.bool true) ∧ Below w.heap.size w w' := by
  refine law_runG (ρ := envR l [] d d 0 (lenAbsB (ownK w))) (fun f sp h => mxl_ok Aw _ f sp h) mxl_body hT hg
    (heapR_hr (vm := ⟨.slice A d.l.length cap, rfl⟩) (vr := ⟨.slice A0 l.length cap0, rfl⟩) hw (fun q h => h) ⟨fun _ => False, .inl ⟨by omega, ⟨d.l, A, cap, rfl, rfl⟩, rfl⟩, fun q h => h.elim⟩
      ⟨rowF A0 l, .inr ⟨by omega, by decide, row_okF hA0 hl⟩, fun q hq => rowF_lt hA0 hq⟩) ?_
  have e : mex.core.conc (envR l [] d d 0 (lenAbsB (ownK w))) (ιR ⟨.slice A d.l.length cap, rfl⟩ ⟨.slice A0 l.length cap0, rfl⟩) = d.val (.slice A d.l.length cap) := core_concG litF [] 0 hd stl.F (lenAbsB (ownK w)) _
  show [_, mex.core.conc (envR l [] d d 0 (lenAbsB (ownK w))) (ιR ⟨.slice A d.l.length cap, rfl⟩ ⟨.slice A0 l.length cap0, rfl⟩)] = _
  rw [e]
  rfl
set_option maxRecDepth 100000 in
theorem reads_any (Aw : AwakeM) {w : World} {A0 : Option Addr} {cap0 : Nat} (hA0 : FAt w w.heap.size A0 l) (hl : ∀ y ∈ l, y.Ok) (hd : d.Ok) (hw : Laid w) {A : Option Addr} {cap : Nat} (hA : ClAt w w.heap.size A d.l) :
    Calls Tryz.prog rds.fL #[.slice A0 l.length cap0, d.val (.slice A d.l.length cap)] w fun e w' => e = .returned (.bool true) ∧ Below w.heap.size w w' := by
  have e40 : iv (envR l [] d d 0 (lenAbsB (ownK w))) rds.lenT = (l.length : Int) := by
    show ((l.map fun x => Sc.list x.scs).length : Int) = _
    rw [List.length_map]
  have e31 : iv (envR l [] d d 0 (lenAbsB (ownK w))) rds.memT = (d.l.length : Int) := by
    show ((clSc d.l).asList.length : Int) = _
    rw [clSc_len]
  have en : ∀ k : Int, iv (envR l [] d d 0 (lenAbsB (ownK w))) (.num k) = k := fun _ => rfl
  have no0 : l ≠ [] → AllT (envR l [] d d 0 (lenAbsB (ownK w))) [mex.no (mex.eq rds.lenT (.num 0))] := fun h0 => allT_cons ((tr_not _).2 fun h => by
    have h : iv (envR l [] d d 0 (lenAbsB (ownK w))) rds.lenT = iv (envR l [] d d 0 (lenAbsB (ownK w))) (.num 0) := (tr_eq _ _).1 h
    rw [e40, en] at h
    exact h0 (List.eq_nil_of_length_eq_zero (by omega))) (allT_nil _)
  by_cases h0 : l = []
  · subst h0
    exact reads_out Aw hw hl hd hA0 (allT_cons ((tr_eq rds.lenT (.num 0)).2 rfl) (allT_nil _)) rds.empty
  by_cases h10 : 10 < l.length
  · refine reads_out Aw hw hl hd hA0 (allT_app (no0 h0) (allT_cons ((tr_lt _ _).2 ?_) (allT_nil _))) rds.many
    rw [e40, en]
    omega
  by_cases hm : d.l.length ≤ 100
  · match l, h0, h10, hl, hA0 with
    | x :: r, _, h10, hl, hA0 =>
      have hx := hl x (List.mem_cons_self ..)
      rcases best_err x (itT d.it) with he | he
      · obtain ⟨n1, n2, hh, _⟩ := best_law hx he
        have hf := fetch_best hx he
        generalize hb : bestOf x (itT d.it) = q at he n1 n2 hh hf
        obtain ⟨hs, err⟩ := q
        obtain rfl : err = 0 := he
        simp only at n1 n2 hh hf
        have hC : (packB hs).length ≤ 10000 := by rw [packB_len]; omega
        have hd0 := zeroPc_ok hd
        have hs64 : kHas .i64 (2 * (hs.length : Int)) := by
          show -2 ^ 63 ≤ 2 * (hs.length : Int) ∧ 2 * (hs.length : Int) < 2 ^ 63
          omega
        obtain ⟨d', o, hO⟩ := exec_all hx hC hs64 hd0 hw (show ClAt w w.heap.size A (zeroPc d).l from hA) (show d.l.length ≤ 4294967296 by omega)
        have hfd : fetchD (packB hs) (zeroPc d) = (x, 2 * (hs.length : Int)) := by
          unfold fetchD
          rw [zeroPc_15 hd]
          exact hf
        have hSt := step_ans hx hC hs64 hd0 (show d.l.length ≤ 4294967296 by omega) hfd hO
        have n12 : hs.length = 1 ∨ hs.length = 2 := by omega
        refine reads_in Aw (n := hs.length) hw hl hd hm (by omega) rfl n1 n2 hh hb hO hSt hA0 hA ?_
        rcases n12 with e | e
        · rw [e]; exact rds.one
        · rw [e]; exact rds.two
      · have hnil : bestOf x (itT d.it) = ([], 6) := Prod.ext (best_nil x (itT d.it) he) he
        exact reads_err Aw hw hl hd hm (by omega) hnil hA0 hA
  · refine reads_out Aw hw hl hd hA0 (allT_app (no0 h0) (allT_cons ((tr_not _).2 fun h => ?_) (allT_cons ((tr_not _).2 fun h => ?_) (allT_nil _)))) rds.large
    · have := (tr_lt _ _).1 h
      rw [e40, en] at this
      omega
    · have := (tr_le _ _).1 h
      rw [e31, en] at this
      omega
end
end Go.Proofs.YthbdmlcbdibiiaaGreatDoor
