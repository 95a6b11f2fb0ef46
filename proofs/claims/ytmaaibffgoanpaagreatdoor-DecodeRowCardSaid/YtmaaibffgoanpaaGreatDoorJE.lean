/- For the seat: texts joined: Enn, Env, Enc, Awk, BakDef, Bak, Post. -/
import Derived.Test.YtmaaibffgoanpaaGreatDoorJN0
import Derived.Test.YtmaaibffgoanpaaGreatDoorJN1
import Derived.Test.YtmaaibffgoanpaaGreatDoorJN2
import Derived.Test.YtmaaibffgoanpaaGreatDoorJV0
import Derived.Test.YtmaaibffgoanpaaGreatDoorJV1
import Derived.Test.YtmaaibffgoanpaaGreatDoorJV2
import Derived.Test.YtmaaibffgoanpaaGreatDoorJV3
import Derived.Test.YtmaaibffgoanpaaGreatDoorJV4
import Derived.Test.YtmaaibffgoanpaaGreatDoorJV5
import Derived.Test.YtmaaibffgoanpaaGreatDoorJD
import Derived.Deep.RegionHeld3
import Derived.Test.YtmaaibffgoanpaaGreatDoorJB
import Derived.Test.YtmaaibffgoanpaaGreatDoorJA
import Derived.Test.YtmaaibffgoanpaaGreatDoorTie
import Derived.Test.YtmaaibffgoanpaaGreatDoorCards
import Derived.Carry
import Derived.ProofKit
import Derived.OpenShut
import Derived.Deep.Slices
import Derived.ChangeVars
import Derived.JoinedOf
import Derived.SevenTiedAt
/- Enn: all cases of the input. -/
namespace Go.Proofs.YtmaaibffgoanpaaGreatDoor.enn
open Go.Sx
set_option maxRecDepth 100000
theorem n1 : (Cb.casesN 1).length = 10 := by kernel_rfl
set_option maxRecDepth 100000 in
theorem g1 : ∀ j : Nat, j < (Cb.casesN 1).length → enc.nat 1 j = true := by
  intro j hj
  rw [n1] at hj
  by_cases h : j < 10
  · exact List.all_eq_true.1 w1x0 j (List.mem_range'_1.2 ⟨by omega, by omega⟩)
  omega
set_option maxRecDepth 100000 in
theorem n2 : (Cb.casesN 2).length = 10 := by kernel_rfl
set_option maxRecDepth 100000 in
theorem g2 : ∀ j : Nat, j < (Cb.casesN 2).length → enc.nat 2 j = true := by
  intro j hj
  rw [n2] at hj
  by_cases h : j < 10
  · exact List.all_eq_true.1 w2x0 j (List.mem_range'_1.2 ⟨by omega, by omega⟩)
  omega
set_option maxRecDepth 100000 in
theorem n3 : (Cb.casesN 3).length = 10 := by kernel_rfl
set_option maxRecDepth 100000 in
theorem g3 : ∀ j : Nat, j < (Cb.casesN 3).length → enc.nat 3 j = true := by
  intro j hj
  rw [n3] at hj
  by_cases h : j < 10
  · exact List.all_eq_true.1 w3x0 j (List.mem_range'_1.2 ⟨by omega, by omega⟩)
  omega
set_option maxRecDepth 100000 in
theorem n4 : (Cb.casesN 4).length = 10 := by kernel_rfl
set_option maxRecDepth 100000 in
theorem g4 : ∀ j : Nat, j < (Cb.casesN 4).length → enc.nat 4 j = true := by
  intro j hj
  rw [n4] at hj
  by_cases h : j < 10
  · exact List.all_eq_true.1 w4x0 j (List.mem_range'_1.2 ⟨by omega, by omega⟩)
  omega
set_option maxRecDepth 100000 in
theorem n5 : (Cb.casesN 5).length = 21 := by kernel_rfl
set_option maxRecDepth 100000 in
theorem g5 : ∀ j : Nat, j < (Cb.casesN 5).length → enc.nat 5 j = true := by
  intro j hj
  rw [n5] at hj
  by_cases h : j < 7
  · exact List.all_eq_true.1 w5x0 j (List.mem_range'_1.2 ⟨by omega, by omega⟩)
  by_cases h : j < 10
  · exact List.all_eq_true.1 w5x7 j (List.mem_range'_1.2 ⟨by omega, by omega⟩)
  by_cases h : j < 11
  · exact List.all_eq_true.1 w5x10 j (List.mem_range'_1.2 ⟨by omega, by omega⟩)
  by_cases h : j < 12
  · exact List.all_eq_true.1 w5x11 j (List.mem_range'_1.2 ⟨by omega, by omega⟩)
  by_cases h : j < 21
  · exact List.all_eq_true.1 w5x12 j (List.mem_range'_1.2 ⟨by omega, by omega⟩)
  omega
set_option maxRecDepth 100000 in
theorem n6 : (Cb.casesN 6).length = 10 := by kernel_rfl
set_option maxRecDepth 100000 in
theorem g6 : ∀ j : Nat, j < (Cb.casesN 6).length → enc.nat 6 j = true := by
  intro j hj
  rw [n6] at hj
  by_cases h : j < 10
  · exact List.all_eq_true.1 w6x0 j (List.mem_range'_1.2 ⟨by omega, by omega⟩)
  omega
set_option maxRecDepth 100000 in
theorem n7 : (Cb.casesN 7).length = 21 := by kernel_rfl
set_option maxRecDepth 100000 in
theorem g7 : ∀ j : Nat, j < (Cb.casesN 7).length → enc.nat 7 j = true := by
  intro j hj
  rw [n7] at hj
  by_cases h : j < 10
  · exact List.all_eq_true.1 w7x0 j (List.mem_range'_1.2 ⟨by omega, by omega⟩)
  by_cases h : j < 11
  · exact List.all_eq_true.1 w7x10 j (List.mem_range'_1.2 ⟨by omega, by omega⟩)
  by_cases h : j < 16
  · exact List.all_eq_true.1 w7x11 j (List.mem_range'_1.2 ⟨by omega, by omega⟩)
  by_cases h : j < 21
  · exact List.all_eq_true.1 w7x16 j (List.mem_range'_1.2 ⟨by omega, by omega⟩)
  omega
set_option maxRecDepth 100000 in
theorem n8 : (Cb.casesN 8).length = 10 := by kernel_rfl
set_option maxRecDepth 100000 in
theorem g8 : ∀ j : Nat, j < (Cb.casesN 8).length → enc.nat 8 j = true := by
  intro j hj
  rw [n8] at hj
  by_cases h : j < 10
  · exact List.all_eq_true.1 w8x0 j (List.mem_range'_1.2 ⟨by omega, by omega⟩)
  omega
set_option maxRecDepth 100000 in
theorem n9 : (Cb.casesN 9).length = 10 := by kernel_rfl
set_option maxRecDepth 100000 in
theorem g9 : ∀ j : Nat, j < (Cb.casesN 9).length → enc.nat 9 j = true := by
  intro j hj
  rw [n9] at hj
  by_cases h : j < 10
  · exact List.all_eq_true.1 w9x0 j (List.mem_range'_1.2 ⟨by omega, by omega⟩)
  omega
set_option maxRecDepth 100000 in
theorem n10 : (Cb.casesN 10).length = 13 := by kernel_rfl
set_option maxRecDepth 100000 in
theorem g10 : ∀ j : Nat, j < (Cb.casesN 10).length → enc.nat 10 j = true := by
  intro j hj
  rw [n10] at hj
  by_cases h : j < 13
  · exact List.all_eq_true.1 w10x0 j (List.mem_range'_1.2 ⟨by omega, by omega⟩)
  omega
set_option maxRecDepth 100000 in
theorem n11 : (Cb.casesN 11).length = 6 := by kernel_rfl
set_option maxRecDepth 100000 in
theorem g11 : ∀ j : Nat, j < (Cb.casesN 11).length → enc.nat 11 j = true := by
  intro j hj
  rw [n11] at hj
  by_cases h : j < 6
  · exact List.all_eq_true.1 w11x0 j (List.mem_range'_1.2 ⟨by omega, by omega⟩)
  omega
set_option maxRecDepth 100000 in
theorem n12 : (Cb.casesN 12).length = 9 := by kernel_rfl
set_option maxRecDepth 100000 in
theorem g12 : ∀ j : Nat, j < (Cb.casesN 12).length → enc.nat 12 j = true := by
  intro j hj
  rw [n12] at hj
  by_cases h : j < 9
  · exact List.all_eq_true.1 w12x0 j (List.mem_range'_1.2 ⟨by omega, by omega⟩)
  omega
set_option maxRecDepth 100000 in
theorem n13 : (Cb.casesN 13).length = 6 := by kernel_rfl
set_option maxRecDepth 100000 in
theorem g13 : ∀ j : Nat, j < (Cb.casesN 13).length → enc.nat 13 j = true := by
  intro j hj
  rw [n13] at hj
  by_cases h : j < 6
  · exact List.all_eq_true.1 w13x0 j (List.mem_range'_1.2 ⟨by omega, by omega⟩)
  omega
set_option maxRecDepth 100000 in
theorem n14 : (Cb.casesN 14).length = 6 := by kernel_rfl
set_option maxRecDepth 100000 in
theorem g14 : ∀ j : Nat, j < (Cb.casesN 14).length → enc.nat 14 j = true := by
  intro j hj
  rw [n14] at hj
  by_cases h : j < 6
  · exact List.all_eq_true.1 w14x0 j (List.mem_range'_1.2 ⟨by omega, by omega⟩)
  omega
set_option maxRecDepth 100000 in
theorem n15 : (Cb.casesN 15).length = 3 := by kernel_rfl
set_option maxRecDepth 100000 in
theorem g15 : ∀ j : Nat, j < (Cb.casesN 15).length → enc.nat 15 j = true := by
  intro j hj
  rw [n15] at hj
  by_cases h : j < 3
  · exact List.all_eq_true.1 w15x0 j (List.mem_range'_1.2 ⟨by omega, by omega⟩)
  omega
set_option maxRecDepth 100000 in
theorem n16 : (Cb.casesN 16).length = 13 := by kernel_rfl
set_option maxRecDepth 100000 in
theorem g16 : ∀ j : Nat, j < (Cb.casesN 16).length → enc.nat 16 j = true := by
  intro j hj
  rw [n16] at hj
  by_cases h : j < 13
  · exact List.all_eq_true.1 w16x0 j (List.mem_range'_1.2 ⟨by omega, by omega⟩)
  omega
set_option maxRecDepth 100000 in
theorem n17 : (Cb.casesN 17).length = 17 := by kernel_rfl
set_option maxRecDepth 100000 in
theorem g17 : ∀ j : Nat, j < (Cb.casesN 17).length → enc.nat 17 j = true := by
  intro j hj
  rw [n17] at hj
  by_cases h : j < 14
  · exact List.all_eq_true.1 w17x0 j (List.mem_range'_1.2 ⟨by omega, by omega⟩)
  by_cases h : j < 17
  · exact List.all_eq_true.1 w17x14 j (List.mem_range'_1.2 ⟨by omega, by omega⟩)
  omega
set_option maxRecDepth 100000 in
theorem n18 : (Cb.casesN 18).length = 17 := by kernel_rfl
set_option maxRecDepth 100000 in
theorem g18 : ∀ j : Nat, j < (Cb.casesN 18).length → enc.nat 18 j = true := by
  intro j hj
  rw [n18] at hj
  by_cases h : j < 14
  · exact List.all_eq_true.1 w18x0 j (List.mem_range'_1.2 ⟨by omega, by omega⟩)
  by_cases h : j < 17
  · exact List.all_eq_true.1 w18x14 j (List.mem_range'_1.2 ⟨by omega, by omega⟩)
  omega
set_option maxRecDepth 100000 in
theorem n19 : (Cb.casesN 19).length = 10 := by kernel_rfl
set_option maxRecDepth 100000 in
theorem g19 : ∀ j : Nat, j < (Cb.casesN 19).length → enc.nat 19 j = true := by
  intro j hj
  rw [n19] at hj
  by_cases h : j < 10
  · exact List.all_eq_true.1 w19x0 j (List.mem_range'_1.2 ⟨by omega, by omega⟩)
  omega
set_option maxRecDepth 100000 in
theorem n20 : (Cb.casesN 20).length = 9 := by kernel_rfl
set_option maxRecDepth 100000 in
theorem g20 : ∀ j : Nat, j < (Cb.casesN 20).length → enc.nat 20 j = true := by
  intro j hj
  rw [n20] at hj
  by_cases h : j < 9
  · exact List.all_eq_true.1 w20x0 j (List.mem_range'_1.2 ⟨by omega, by omega⟩)
  omega
set_option maxRecDepth 100000 in
theorem n21 : (Cb.casesN 21).length = 2 := by kernel_rfl
set_option maxRecDepth 100000 in
theorem g21 : ∀ j : Nat, j < (Cb.casesN 21).length → enc.nat 21 j = true := by
  intro j hj
  rw [n21] at hj
  by_cases h : j < 2
  · exact List.all_eq_true.1 w21x0 j (List.mem_range'_1.2 ⟨by omega, by omega⟩)
  omega
set_option maxRecDepth 100000 in
theorem n22 : (Cb.casesN 22).length = 2 := by kernel_rfl
set_option maxRecDepth 100000 in
theorem g22 : ∀ j : Nat, j < (Cb.casesN 22).length → enc.nat 22 j = true := by
  intro j hj
  rw [n22] at hj
  by_cases h : j < 2
  · exact List.all_eq_true.1 w22x0 j (List.mem_range'_1.2 ⟨by omega, by omega⟩)
  omega
set_option maxRecDepth 100000 in
theorem n23 : (Cb.casesN 23).length = 2 := by kernel_rfl
set_option maxRecDepth 100000 in
theorem g23 : ∀ j : Nat, j < (Cb.casesN 23).length → enc.nat 23 j = true := by
  intro j hj
  rw [n23] at hj
  by_cases h : j < 2
  · exact List.all_eq_true.1 w23x0 j (List.mem_range'_1.2 ⟨by omega, by omega⟩)
  omega
set_option maxRecDepth 100000 in
theorem n24 : (Cb.casesN 24).length = 2 := by kernel_rfl
set_option maxRecDepth 100000 in
theorem g24 : ∀ j : Nat, j < (Cb.casesN 24).length → enc.nat 24 j = true := by
  intro j hj
  rw [n24] at hj
  by_cases h : j < 2
  · exact List.all_eq_true.1 w24x0 j (List.mem_range'_1.2 ⟨by omega, by omega⟩)
  omega
set_option maxRecDepth 100000 in
theorem n25 : (Cb.casesN 25).length = 22 := by kernel_rfl
set_option maxRecDepth 100000 in
theorem g25 : ∀ j : Nat, j < (Cb.casesN 25).length → enc.nat 25 j = true := by
  intro j hj
  rw [n25] at hj
  by_cases h : j < 13
  · exact List.all_eq_true.1 w25x0 j (List.mem_range'_1.2 ⟨by omega, by omega⟩)
  by_cases h : j < 22
  · exact List.all_eq_true.1 w25x13 j (List.mem_range'_1.2 ⟨by omega, by omega⟩)
  omega
set_option maxRecDepth 100000 in
theorem n26 : (Cb.casesN 26).length = 19 := by kernel_rfl
set_option maxRecDepth 100000 in
theorem g26 : ∀ j : Nat, j < (Cb.casesN 26).length → enc.nat 26 j = true := by
  intro j hj
  rw [n26] at hj
  by_cases h : j < 10
  · exact List.all_eq_true.1 w26x0 j (List.mem_range'_1.2 ⟨by omega, by omega⟩)
  by_cases h : j < 16
  · exact List.all_eq_true.1 w26x10 j (List.mem_range'_1.2 ⟨by omega, by omega⟩)
  by_cases h : j < 19
  · exact List.all_eq_true.1 w26x16 j (List.mem_range'_1.2 ⟨by omega, by omega⟩)
  omega
set_option maxRecDepth 100000 in
theorem n27 : (Cb.casesN 27).length = 20 := by kernel_rfl
set_option maxRecDepth 100000 in
theorem g27 : ∀ j : Nat, j < (Cb.casesN 27).length → enc.nat 27 j = true := by
  intro j hj
  rw [n27] at hj
  by_cases h : j < 10
  · exact List.all_eq_true.1 w27x0 j (List.mem_range'_1.2 ⟨by omega, by omega⟩)
  by_cases h : j < 16
  · exact List.all_eq_true.1 w27x10 j (List.mem_range'_1.2 ⟨by omega, by omega⟩)
  by_cases h : j < 20
  · exact List.all_eq_true.1 w27x16 j (List.mem_range'_1.2 ⟨by omega, by omega⟩)
  omega
set_option maxRecDepth 100000 in
theorem n28 : (Cb.casesN 28).length = 22 := by kernel_rfl
set_option maxRecDepth 100000 in
theorem g28 : ∀ j : Nat, j < (Cb.casesN 28).length → enc.nat 28 j = true := by
  intro j hj
  rw [n28] at hj
  by_cases h : j < 10
  · exact List.all_eq_true.1 w28x0 j (List.mem_range'_1.2 ⟨by omega, by omega⟩)
  by_cases h : j < 21
  · exact List.all_eq_true.1 w28x10 j (List.mem_range'_1.2 ⟨by omega, by omega⟩)
  by_cases h : j < 22
  · exact List.all_eq_true.1 w28x21 j (List.mem_range'_1.2 ⟨by omega, by omega⟩)
  omega
set_option maxRecDepth 100000 in
theorem n29 : (Cb.casesN 29).length = 19 := by kernel_rfl
set_option maxRecDepth 100000 in
theorem g29 : ∀ j : Nat, j < (Cb.casesN 29).length → enc.nat 29 j = true := by
  intro j hj
  rw [n29] at hj
  by_cases h : j < 10
  · exact List.all_eq_true.1 w29x0 j (List.mem_range'_1.2 ⟨by omega, by omega⟩)
  by_cases h : j < 19
  · exact List.all_eq_true.1 w29x10 j (List.mem_range'_1.2 ⟨by omega, by omega⟩)
  omega
set_option maxRecDepth 100000 in
theorem n30 : (Cb.casesN 30).length = 20 := by kernel_rfl
set_option maxRecDepth 100000 in
theorem g30 : ∀ j : Nat, j < (Cb.casesN 30).length → enc.nat 30 j = true := by
  intro j hj
  rw [n30] at hj
  by_cases h : j < 12
  · exact List.all_eq_true.1 w30x0 j (List.mem_range'_1.2 ⟨by omega, by omega⟩)
  by_cases h : j < 20
  · exact List.all_eq_true.1 w30x12 j (List.mem_range'_1.2 ⟨by omega, by omega⟩)
  omega
set_option maxRecDepth 100000 in
theorem n31 : (Cb.casesN 31).length = 5 := by kernel_rfl
set_option maxRecDepth 100000 in
theorem g31 : ∀ j : Nat, j < (Cb.casesN 31).length → enc.nat 31 j = true := by
  intro j hj
  rw [n31] at hj
  by_cases h : j < 1
  · exact List.all_eq_true.1 w31x0 j (List.mem_range'_1.2 ⟨by omega, by omega⟩)
  by_cases h : j < 2
  · exact List.all_eq_true.1 w31x1 j (List.mem_range'_1.2 ⟨by omega, by omega⟩)
  by_cases h : j < 4
  · exact List.all_eq_true.1 w31x2 j (List.mem_range'_1.2 ⟨by omega, by omega⟩)
  by_cases h : j < 5
  · exact List.all_eq_true.1 w31x4 j (List.mem_range'_1.2 ⟨by omega, by omega⟩)
  omega
set_option maxRecDepth 100000 in
theorem n32 : (Cb.casesN 32).length = 5 := by kernel_rfl
set_option maxRecDepth 100000 in
theorem g32 : ∀ j : Nat, j < (Cb.casesN 32).length → enc.nat 32 j = true := by
  intro j hj
  rw [n32] at hj
  by_cases h : j < 1
  · exact List.all_eq_true.1 w32x0 j (List.mem_range'_1.2 ⟨by omega, by omega⟩)
  by_cases h : j < 2
  · exact List.all_eq_true.1 w32x1 j (List.mem_range'_1.2 ⟨by omega, by omega⟩)
  by_cases h : j < 4
  · exact List.all_eq_true.1 w32x2 j (List.mem_range'_1.2 ⟨by omega, by omega⟩)
  by_cases h : j < 5
  · exact List.all_eq_true.1 w32x4 j (List.mem_range'_1.2 ⟨by omega, by omega⟩)
  omega
set_option maxRecDepth 100000 in
theorem n33 : (Cb.casesN 33).length = 3 := by kernel_rfl
set_option maxRecDepth 100000 in
theorem g33 : ∀ j : Nat, j < (Cb.casesN 33).length → enc.nat 33 j = true := by
  intro j hj
  rw [n33] at hj
  by_cases h : j < 3
  · exact List.all_eq_true.1 w33x0 j (List.mem_range'_1.2 ⟨by omega, by omega⟩)
  omega
set_option maxRecDepth 100000 in
theorem n34 : (Cb.casesN 34).length = 3 := by kernel_rfl
set_option maxRecDepth 100000 in
theorem g34 : ∀ j : Nat, j < (Cb.casesN 34).length → enc.nat 34 j = true := by
  intro j hj
  rw [n34] at hj
  by_cases h : j < 3
  · exact List.all_eq_true.1 w34x0 j (List.mem_range'_1.2 ⟨by omega, by omega⟩)
  omega
set_option maxRecDepth 100000 in
theorem n35 : (Cb.casesN 35).length = 7 := by kernel_rfl
set_option maxRecDepth 100000 in
theorem g35 : ∀ j : Nat, j < (Cb.casesN 35).length → enc.nat 35 j = true := by
  intro j hj
  rw [n35] at hj
  by_cases h : j < 7
  · exact List.all_eq_true.1 w35x0 j (List.mem_range'_1.2 ⟨by omega, by omega⟩)
  omega
set_option maxRecDepth 100000 in
theorem n36 : (Cb.casesN 36).length = 2 := by kernel_rfl
set_option maxRecDepth 100000 in
theorem g36 : ∀ j : Nat, j < (Cb.casesN 36).length → enc.nat 36 j = true := by
  intro j hj
  rw [n36] at hj
  by_cases h : j < 2
  · exact List.all_eq_true.1 w36x0 j (List.mem_range'_1.2 ⟨by omega, by omega⟩)
  omega
set_option maxRecDepth 100000 in
theorem n37 : (Cb.casesN 37).length = 2 := by kernel_rfl
set_option maxRecDepth 100000 in
theorem g37 : ∀ j : Nat, j < (Cb.casesN 37).length → enc.nat 37 j = true := by
  intro j hj
  rw [n37] at hj
  by_cases h : j < 2
  · exact List.all_eq_true.1 w37x0 j (List.mem_range'_1.2 ⟨by omega, by omega⟩)
  omega
set_option maxRecDepth 100000 in
theorem n38 : (Cb.casesN 38).length = 2 := by kernel_rfl
set_option maxRecDepth 100000 in
theorem g38 : ∀ j : Nat, j < (Cb.casesN 38).length → enc.nat 38 j = true := by
  intro j hj
  rw [n38] at hj
  by_cases h : j < 2
  · exact List.all_eq_true.1 w38x0 j (List.mem_range'_1.2 ⟨by omega, by omega⟩)
  omega
set_option maxRecDepth 100000 in
theorem n39 : (Cb.casesN 39).length = 2 := by kernel_rfl
set_option maxRecDepth 100000 in
theorem g39 : ∀ j : Nat, j < (Cb.casesN 39).length → enc.nat 39 j = true := by
  intro j hj
  rw [n39] at hj
  by_cases h : j < 2
  · exact List.all_eq_true.1 w39x0 j (List.mem_range'_1.2 ⟨by omega, by omega⟩)
  omega
set_option maxRecDepth 100000 in
theorem n40 : (Cb.casesN 40).length = 9 := by kernel_rfl
set_option maxRecDepth 100000 in
theorem g40 : ∀ j : Nat, j < (Cb.casesN 40).length → enc.nat 40 j = true := by
  intro j hj
  rw [n40] at hj
  by_cases h : j < 9
  · exact List.all_eq_true.1 w40x0 j (List.mem_range'_1.2 ⟨by omega, by omega⟩)
  omega
set_option maxRecDepth 100000 in
theorem n41 : (Cb.casesN 41).length = 9 := by kernel_rfl
set_option maxRecDepth 100000 in
theorem g41 : ∀ j : Nat, j < (Cb.casesN 41).length → enc.nat 41 j = true := by
  intro j hj
  rw [n41] at hj
  by_cases h : j < 9
  · exact List.all_eq_true.1 w41x0 j (List.mem_range'_1.2 ⟨by omega, by omega⟩)
  omega
set_option maxRecDepth 100000 in
theorem n42 : (Cb.casesN 42).length = 2 := by kernel_rfl
set_option maxRecDepth 100000 in
theorem g42 : ∀ j : Nat, j < (Cb.casesN 42).length → enc.nat 42 j = true := by
  intro j hj
  rw [n42] at hj
  by_cases h : j < 2
  · exact List.all_eq_true.1 w42x0 j (List.mem_range'_1.2 ⟨by omega, by omega⟩)
  omega
set_option maxRecDepth 100000 in
theorem n43 : (Cb.casesN 43).length = 2 := by kernel_rfl
set_option maxRecDepth 100000 in
theorem g43 : ∀ j : Nat, j < (Cb.casesN 43).length → enc.nat 43 j = true := by
  intro j hj
  rw [n43] at hj
  by_cases h : j < 2
  · exact List.all_eq_true.1 w43x0 j (List.mem_range'_1.2 ⟨by omega, by omega⟩)
  omega
set_option maxRecDepth 100000 in
theorem n44 : (Cb.casesN 44).length = 2 := by kernel_rfl
set_option maxRecDepth 100000 in
theorem g44 : ∀ j : Nat, j < (Cb.casesN 44).length → enc.nat 44 j = true := by
  intro j hj
  rw [n44] at hj
  by_cases h : j < 2
  · exact List.all_eq_true.1 w44x0 j (List.mem_range'_1.2 ⟨by omega, by omega⟩)
  omega
set_option maxRecDepth 100000 in
theorem n45 : (Cb.casesN 45).length = 2 := by kernel_rfl
set_option maxRecDepth 100000 in
theorem g45 : ∀ j : Nat, j < (Cb.casesN 45).length → enc.nat 45 j = true := by
  intro j hj
  rw [n45] at hj
  by_cases h : j < 2
  · exact List.all_eq_true.1 w45x0 j (List.mem_range'_1.2 ⟨by omega, by omega⟩)
  omega
set_option maxRecDepth 100000 in
theorem all : ∀ k : Nat, 1 ≤ k → k ≤ 45 → ∀ j : Nat, j < (Cb.casesN k).length → enc.nat k j = true := by
  intro k h h'
  match k, h, h' with
  | 1, _, _ => exact g1
  | 2, _, _ => exact g2
  | 3, _, _ => exact g3
  | 4, _, _ => exact g4
  | 5, _, _ => exact g5
  | 6, _, _ => exact g6
  | 7, _, _ => exact g7
  | 8, _, _ => exact g8
  | 9, _, _ => exact g9
  | 10, _, _ => exact g10
  | 11, _, _ => exact g11
  | 12, _, _ => exact g12
  | 13, _, _ => exact g13
  | 14, _, _ => exact g14
  | 15, _, _ => exact g15
  | 16, _, _ => exact g16
  | 17, _, _ => exact g17
  | 18, _, _ => exact g18
  | 19, _, _ => exact g19
  | 20, _, _ => exact g20
  | 21, _, _ => exact g21
  | 22, _, _ => exact g22
  | 23, _, _ => exact g23
  | 24, _, _ => exact g24
  | 25, _, _ => exact g25
  | 26, _, _ => exact g26
  | 27, _, _ => exact g27
  | 28, _, _ => exact g28
  | 29, _, _ => exact g29
  | 30, _, _ => exact g30
  | 31, _, _ => exact g31
  | 32, _, _ => exact g32
  | 33, _, _ => exact g33
  | 34, _, _ => exact g34
  | 35, _, _ => exact g35
  | 36, _, _ => exact g36
  | 37, _, _ => exact g37
  | 38, _, _ => exact g38
  | 39, _, _ => exact g39
  | 40, _, _ => exact g40
  | 41, _, _ => exact g41
  | 42, _, _ => exact g42
  | 43, _, _ => exact g43
  | 44, _, _ => exact g44
  | 45, _, _ => exact g45
  | n + 46, _, h' => omega
set_option maxRecDepth 100000 in
theorem cov : ∀ k : Nat, 1 ≤ k → k ≤ 45 → apt.covN k = true := by
  intro k h h'
  match k, h, h' with
  | 1, _, _ => exact c1
  | 2, _, _ => exact c2
  | 3, _, _ => exact c3
  | 4, _, _ => exact c4
  | 5, _, _ => exact c5
  | 6, _, _ => exact c6
  | 7, _, _ => exact c7
  | 8, _, _ => exact c8
  | 9, _, _ => exact c9
  | 10, _, _ => exact c10
  | 11, _, _ => exact c11
  | 12, _, _ => exact c12
  | 13, _, _ => exact c13
  | 14, _, _ => exact c14
  | 15, _, _ => exact c15
  | 16, _, _ => exact c16
  | 17, _, _ => exact c17
  | 18, _, _ => exact c18
  | 19, _, _ => exact c19
  | 20, _, _ => exact c20
  | 21, _, _ => exact c21
  | 22, _, _ => exact c22
  | 23, _, _ => exact c23
  | 24, _, _ => exact c24
  | 25, _, _ => exact c25
  | 26, _, _ => exact c26
  | 27, _, _ => exact c27
  | 28, _, _ => exact c28
  | 29, _, _ => exact c29
  | 30, _, _ => exact c30
  | 31, _, _ => exact c31
  | 32, _, _ => exact c32
  | 33, _, _ => exact c33
  | 34, _, _ => exact c34
  | 35, _, _ => exact c35
  | 36, _, _ => exact c36
  | 37, _, _ => exact c37
  | 38, _, _ => exact c38
  | 39, _, _ => exact c39
  | 40, _, _ => exact c40
  | 41, _, _ => exact c41
  | 42, _, _ => exact c42
  | 43, _, _ => exact c43
  | 44, _, _ => exact c44
  | 45, _, _ => exact c45
  | n + 46, _, h' => omega
set_option maxRecDepth 100000 in
theorem ex {x : Fields} (hx : x.Ok) (it : Bool) : ∃ p, EncX enc.exShort 13 16 1 x it p := xxN encS_ok encS_body hx it lo hi cov all
end Go.Proofs.YtmaaibffgoanpaaGreatDoor.enn
/- Env: all cases of the input. -/
namespace Go.Proofs.YtmaaibffgoanpaaGreatDoor.env
open Go.Sx
set_option maxRecDepth 100000
theorem n1 : (apt.casesV 1).length = 4 := by kernel_rfl
set_option maxRecDepth 100000 in
theorem g1 : ∀ j : Nat, j < (apt.casesV 1).length → enc.vat 1 j = true := by
  intro j hj
  rw [n1] at hj
  by_cases h : j < 1
  · exact List.all_eq_true.1 w1x0 j (List.mem_range'_1.2 ⟨by omega, by omega⟩)
  by_cases h : j < 2
  · exact List.all_eq_true.1 w1x1 j (List.mem_range'_1.2 ⟨by omega, by omega⟩)
  by_cases h : j < 3
  · exact List.all_eq_true.1 w1x2 j (List.mem_range'_1.2 ⟨by omega, by omega⟩)
  by_cases h : j < 4
  · exact List.all_eq_true.1 w1x3 j (List.mem_range'_1.2 ⟨by omega, by omega⟩)
  omega
set_option maxRecDepth 100000 in
theorem n2 : (apt.casesV 2).length = 4 := by kernel_rfl
set_option maxRecDepth 100000 in
theorem g2 : ∀ j : Nat, j < (apt.casesV 2).length → enc.vat 2 j = true := by
  intro j hj
  rw [n2] at hj
  by_cases h : j < 1
  · exact List.all_eq_true.1 w2x0 j (List.mem_range'_1.2 ⟨by omega, by omega⟩)
  by_cases h : j < 2
  · exact List.all_eq_true.1 w2x1 j (List.mem_range'_1.2 ⟨by omega, by omega⟩)
  by_cases h : j < 3
  · exact List.all_eq_true.1 w2x2 j (List.mem_range'_1.2 ⟨by omega, by omega⟩)
  by_cases h : j < 4
  · exact List.all_eq_true.1 w2x3 j (List.mem_range'_1.2 ⟨by omega, by omega⟩)
  omega
set_option maxRecDepth 100000 in
theorem n3 : (apt.casesV 3).length = 4 := by kernel_rfl
set_option maxRecDepth 100000 in
theorem g3 : ∀ j : Nat, j < (apt.casesV 3).length → enc.vat 3 j = true := by
  intro j hj
  rw [n3] at hj
  by_cases h : j < 1
  · exact List.all_eq_true.1 w3x0 j (List.mem_range'_1.2 ⟨by omega, by omega⟩)
  by_cases h : j < 2
  · exact List.all_eq_true.1 w3x1 j (List.mem_range'_1.2 ⟨by omega, by omega⟩)
  by_cases h : j < 3
  · exact List.all_eq_true.1 w3x2 j (List.mem_range'_1.2 ⟨by omega, by omega⟩)
  by_cases h : j < 4
  · exact List.all_eq_true.1 w3x3 j (List.mem_range'_1.2 ⟨by omega, by omega⟩)
  omega
set_option maxRecDepth 100000 in
theorem n4 : (apt.casesV 4).length = 4 := by kernel_rfl
set_option maxRecDepth 100000 in
theorem g4 : ∀ j : Nat, j < (apt.casesV 4).length → enc.vat 4 j = true := by
  intro j hj
  rw [n4] at hj
  by_cases h : j < 1
  · exact List.all_eq_true.1 w4x0 j (List.mem_range'_1.2 ⟨by omega, by omega⟩)
  by_cases h : j < 2
  · exact List.all_eq_true.1 w4x1 j (List.mem_range'_1.2 ⟨by omega, by omega⟩)
  by_cases h : j < 3
  · exact List.all_eq_true.1 w4x2 j (List.mem_range'_1.2 ⟨by omega, by omega⟩)
  by_cases h : j < 4
  · exact List.all_eq_true.1 w4x3 j (List.mem_range'_1.2 ⟨by omega, by omega⟩)
  omega
set_option maxRecDepth 100000 in
theorem n5 : (apt.casesV 5).length = 7 := by kernel_rfl
set_option maxRecDepth 100000 in
theorem g5 : ∀ j : Nat, j < (apt.casesV 5).length → enc.vat 5 j = true := by
  intro j hj
  rw [n5] at hj
  by_cases h : j < 1
  · exact List.all_eq_true.1 w5x0 j (List.mem_range'_1.2 ⟨by omega, by omega⟩)
  by_cases h : j < 2
  · exact List.all_eq_true.1 w5x1 j (List.mem_range'_1.2 ⟨by omega, by omega⟩)
  by_cases h : j < 6
  · exact List.all_eq_true.1 w5x2 j (List.mem_range'_1.2 ⟨by omega, by omega⟩)
  by_cases h : j < 7
  · exact List.all_eq_true.1 w5x6 j (List.mem_range'_1.2 ⟨by omega, by omega⟩)
  omega
set_option maxRecDepth 100000 in
theorem n6 : (apt.casesV 6).length = 4 := by kernel_rfl
set_option maxRecDepth 100000 in
theorem g6 : ∀ j : Nat, j < (apt.casesV 6).length → enc.vat 6 j = true := by
  intro j hj
  rw [n6] at hj
  by_cases h : j < 1
  · exact List.all_eq_true.1 w6x0 j (List.mem_range'_1.2 ⟨by omega, by omega⟩)
  by_cases h : j < 2
  · exact List.all_eq_true.1 w6x1 j (List.mem_range'_1.2 ⟨by omega, by omega⟩)
  by_cases h : j < 3
  · exact List.all_eq_true.1 w6x2 j (List.mem_range'_1.2 ⟨by omega, by omega⟩)
  by_cases h : j < 4
  · exact List.all_eq_true.1 w6x3 j (List.mem_range'_1.2 ⟨by omega, by omega⟩)
  omega
set_option maxRecDepth 100000 in
theorem n7 : (apt.casesV 7).length = 7 := by kernel_rfl
set_option maxRecDepth 100000 in
theorem g7 : ∀ j : Nat, j < (apt.casesV 7).length → enc.vat 7 j = true := by
  intro j hj
  rw [n7] at hj
  by_cases h : j < 1
  · exact List.all_eq_true.1 w7x0 j (List.mem_range'_1.2 ⟨by omega, by omega⟩)
  by_cases h : j < 2
  · exact List.all_eq_true.1 w7x1 j (List.mem_range'_1.2 ⟨by omega, by omega⟩)
  by_cases h : j < 6
  · exact List.all_eq_true.1 w7x2 j (List.mem_range'_1.2 ⟨by omega, by omega⟩)
  by_cases h : j < 7
  · exact List.all_eq_true.1 w7x6 j (List.mem_range'_1.2 ⟨by omega, by omega⟩)
  omega
set_option maxRecDepth 100000 in
theorem n8 : (apt.casesV 8).length = 4 := by kernel_rfl
set_option maxRecDepth 100000 in
theorem g8 : ∀ j : Nat, j < (apt.casesV 8).length → enc.vat 8 j = true := by
  intro j hj
  rw [n8] at hj
  by_cases h : j < 1
  · exact List.all_eq_true.1 w8x0 j (List.mem_range'_1.2 ⟨by omega, by omega⟩)
  by_cases h : j < 2
  · exact List.all_eq_true.1 w8x1 j (List.mem_range'_1.2 ⟨by omega, by omega⟩)
  by_cases h : j < 3
  · exact List.all_eq_true.1 w8x2 j (List.mem_range'_1.2 ⟨by omega, by omega⟩)
  by_cases h : j < 4
  · exact List.all_eq_true.1 w8x3 j (List.mem_range'_1.2 ⟨by omega, by omega⟩)
  omega
set_option maxRecDepth 100000 in
theorem n9 : (apt.casesV 9).length = 4 := by kernel_rfl
set_option maxRecDepth 100000 in
theorem g9 : ∀ j : Nat, j < (apt.casesV 9).length → enc.vat 9 j = true := by
  intro j hj
  rw [n9] at hj
  by_cases h : j < 1
  · exact List.all_eq_true.1 w9x0 j (List.mem_range'_1.2 ⟨by omega, by omega⟩)
  by_cases h : j < 2
  · exact List.all_eq_true.1 w9x1 j (List.mem_range'_1.2 ⟨by omega, by omega⟩)
  by_cases h : j < 3
  · exact List.all_eq_true.1 w9x2 j (List.mem_range'_1.2 ⟨by omega, by omega⟩)
  by_cases h : j < 4
  · exact List.all_eq_true.1 w9x3 j (List.mem_range'_1.2 ⟨by omega, by omega⟩)
  omega
set_option maxRecDepth 100000 in
theorem n10 : (apt.casesV 10).length = 4 := by kernel_rfl
set_option maxRecDepth 100000 in
theorem g10 : ∀ j : Nat, j < (apt.casesV 10).length → enc.vat 10 j = true := by
  intro j hj
  rw [n10] at hj
  by_cases h : j < 3
  · exact List.all_eq_true.1 w10x0 j (List.mem_range'_1.2 ⟨by omega, by omega⟩)
  by_cases h : j < 4
  · exact List.all_eq_true.1 w10x3 j (List.mem_range'_1.2 ⟨by omega, by omega⟩)
  omega
set_option maxRecDepth 100000 in
theorem n11 : (apt.casesV 11).length = 4 := by kernel_rfl
set_option maxRecDepth 100000 in
theorem g11 : ∀ j : Nat, j < (apt.casesV 11).length → enc.vat 11 j = true := by
  intro j hj
  rw [n11] at hj
  by_cases h : j < 3
  · exact List.all_eq_true.1 w11x0 j (List.mem_range'_1.2 ⟨by omega, by omega⟩)
  by_cases h : j < 4
  · exact List.all_eq_true.1 w11x3 j (List.mem_range'_1.2 ⟨by omega, by omega⟩)
  omega
set_option maxRecDepth 100000 in
theorem n12 : (apt.casesV 12).length = 4 := by kernel_rfl
set_option maxRecDepth 100000 in
theorem g12 : ∀ j : Nat, j < (apt.casesV 12).length → enc.vat 12 j = true := by
  intro j hj
  rw [n12] at hj
  by_cases h : j < 4
  · exact List.all_eq_true.1 w12x0 j (List.mem_range'_1.2 ⟨by omega, by omega⟩)
  omega
set_option maxRecDepth 100000 in
theorem n13 : (apt.casesV 13).length = 4 := by kernel_rfl
set_option maxRecDepth 100000 in
theorem g13 : ∀ j : Nat, j < (apt.casesV 13).length → enc.vat 13 j = true := by
  intro j hj
  rw [n13] at hj
  by_cases h : j < 4
  · exact List.all_eq_true.1 w13x0 j (List.mem_range'_1.2 ⟨by omega, by omega⟩)
  omega
set_option maxRecDepth 100000 in
theorem n14 : (apt.casesV 14).length = 4 := by kernel_rfl
set_option maxRecDepth 100000 in
theorem g14 : ∀ j : Nat, j < (apt.casesV 14).length → enc.vat 14 j = true := by
  intro j hj
  rw [n14] at hj
  by_cases h : j < 4
  · exact List.all_eq_true.1 w14x0 j (List.mem_range'_1.2 ⟨by omega, by omega⟩)
  omega
set_option maxRecDepth 100000 in
theorem n15 : (apt.casesV 15).length = 4 := by kernel_rfl
set_option maxRecDepth 100000 in
theorem g15 : ∀ j : Nat, j < (apt.casesV 15).length → enc.vat 15 j = true := by
  intro j hj
  rw [n15] at hj
  by_cases h : j < 4
  · exact List.all_eq_true.1 w15x0 j (List.mem_range'_1.2 ⟨by omega, by omega⟩)
  omega
set_option maxRecDepth 100000 in
theorem n16 : (apt.casesV 16).length = 3 := by kernel_rfl
set_option maxRecDepth 100000 in
theorem g16 : ∀ j : Nat, j < (apt.casesV 16).length → enc.vat 16 j = true := by
  intro j hj
  rw [n16] at hj
  by_cases h : j < 2
  · exact List.all_eq_true.1 w16x0 j (List.mem_range'_1.2 ⟨by omega, by omega⟩)
  by_cases h : j < 3
  · exact List.all_eq_true.1 w16x2 j (List.mem_range'_1.2 ⟨by omega, by omega⟩)
  omega
set_option maxRecDepth 100000 in
theorem n17 : (apt.casesV 17).length = 4 := by kernel_rfl
set_option maxRecDepth 100000 in
theorem g17 : ∀ j : Nat, j < (apt.casesV 17).length → enc.vat 17 j = true := by
  intro j hj
  rw [n17] at hj
  by_cases h : j < 2
  · exact List.all_eq_true.1 w17x0 j (List.mem_range'_1.2 ⟨by omega, by omega⟩)
  by_cases h : j < 3
  · exact List.all_eq_true.1 w17x2 j (List.mem_range'_1.2 ⟨by omega, by omega⟩)
  by_cases h : j < 4
  · exact List.all_eq_true.1 w17x3 j (List.mem_range'_1.2 ⟨by omega, by omega⟩)
  omega
set_option maxRecDepth 100000 in
theorem n18 : (apt.casesV 18).length = 4 := by kernel_rfl
set_option maxRecDepth 100000 in
theorem g18 : ∀ j : Nat, j < (apt.casesV 18).length → enc.vat 18 j = true := by
  intro j hj
  rw [n18] at hj
  by_cases h : j < 1
  · exact List.all_eq_true.1 w18x0 j (List.mem_range'_1.2 ⟨by omega, by omega⟩)
  by_cases h : j < 2
  · exact List.all_eq_true.1 w18x1 j (List.mem_range'_1.2 ⟨by omega, by omega⟩)
  by_cases h : j < 3
  · exact List.all_eq_true.1 w18x2 j (List.mem_range'_1.2 ⟨by omega, by omega⟩)
  by_cases h : j < 4
  · exact List.all_eq_true.1 w18x3 j (List.mem_range'_1.2 ⟨by omega, by omega⟩)
  omega
set_option maxRecDepth 100000 in
theorem n19 : (apt.casesV 19).length = 3 := by kernel_rfl
set_option maxRecDepth 100000 in
theorem g19 : ∀ j : Nat, j < (apt.casesV 19).length → enc.vat 19 j = true := by
  intro j hj
  rw [n19] at hj
  by_cases h : j < 1
  · exact List.all_eq_true.1 w19x0 j (List.mem_range'_1.2 ⟨by omega, by omega⟩)
  by_cases h : j < 2
  · exact List.all_eq_true.1 w19x1 j (List.mem_range'_1.2 ⟨by omega, by omega⟩)
  by_cases h : j < 3
  · exact List.all_eq_true.1 w19x2 j (List.mem_range'_1.2 ⟨by omega, by omega⟩)
  omega
set_option maxRecDepth 100000 in
theorem n20 : (apt.casesV 20).length = 2 := by kernel_rfl
set_option maxRecDepth 100000 in
theorem g20 : ∀ j : Nat, j < (apt.casesV 20).length → enc.vat 20 j = true := by
  intro j hj
  rw [n20] at hj
  by_cases h : j < 2
  · exact List.all_eq_true.1 w20x0 j (List.mem_range'_1.2 ⟨by omega, by omega⟩)
  omega
set_option maxRecDepth 100000 in
theorem n21 : (apt.casesV 21).length = 2 := by kernel_rfl
set_option maxRecDepth 100000 in
theorem g21 : ∀ j : Nat, j < (apt.casesV 21).length → enc.vat 21 j = true := by
  intro j hj
  rw [n21] at hj
  by_cases h : j < 2
  · exact List.all_eq_true.1 w21x0 j (List.mem_range'_1.2 ⟨by omega, by omega⟩)
  omega
set_option maxRecDepth 100000 in
theorem n22 : (apt.casesV 22).length = 2 := by kernel_rfl
set_option maxRecDepth 100000 in
theorem g22 : ∀ j : Nat, j < (apt.casesV 22).length → enc.vat 22 j = true := by
  intro j hj
  rw [n22] at hj
  by_cases h : j < 2
  · exact List.all_eq_true.1 w22x0 j (List.mem_range'_1.2 ⟨by omega, by omega⟩)
  omega
set_option maxRecDepth 100000 in
theorem n23 : (apt.casesV 23).length = 2 := by kernel_rfl
set_option maxRecDepth 100000 in
theorem g23 : ∀ j : Nat, j < (apt.casesV 23).length → enc.vat 23 j = true := by
  intro j hj
  rw [n23] at hj
  by_cases h : j < 2
  · exact List.all_eq_true.1 w23x0 j (List.mem_range'_1.2 ⟨by omega, by omega⟩)
  omega
set_option maxRecDepth 100000 in
theorem n24 : (apt.casesV 24).length = 2 := by kernel_rfl
set_option maxRecDepth 100000 in
theorem g24 : ∀ j : Nat, j < (apt.casesV 24).length → enc.vat 24 j = true := by
  intro j hj
  rw [n24] at hj
  by_cases h : j < 2
  · exact List.all_eq_true.1 w24x0 j (List.mem_range'_1.2 ⟨by omega, by omega⟩)
  omega
set_option maxRecDepth 100000 in
theorem n25 : (apt.casesV 25).length = 3 := by kernel_rfl
set_option maxRecDepth 100000 in
theorem g25 : ∀ j : Nat, j < (apt.casesV 25).length → enc.vat 25 j = true := by
  intro j hj
  rw [n25] at hj
  by_cases h : j < 1
  · exact List.all_eq_true.1 w25x0 j (List.mem_range'_1.2 ⟨by omega, by omega⟩)
  by_cases h : j < 2
  · exact List.all_eq_true.1 w25x1 j (List.mem_range'_1.2 ⟨by omega, by omega⟩)
  by_cases h : j < 3
  · exact List.all_eq_true.1 w25x2 j (List.mem_range'_1.2 ⟨by omega, by omega⟩)
  omega
set_option maxRecDepth 100000 in
theorem n26 : (apt.casesV 26).length = 3 := by kernel_rfl
set_option maxRecDepth 100000 in
theorem g26 : ∀ j : Nat, j < (apt.casesV 26).length → enc.vat 26 j = true := by
  intro j hj
  rw [n26] at hj
  by_cases h : j < 1
  · exact List.all_eq_true.1 w26x0 j (List.mem_range'_1.2 ⟨by omega, by omega⟩)
  by_cases h : j < 2
  · exact List.all_eq_true.1 w26x1 j (List.mem_range'_1.2 ⟨by omega, by omega⟩)
  by_cases h : j < 3
  · exact List.all_eq_true.1 w26x2 j (List.mem_range'_1.2 ⟨by omega, by omega⟩)
  omega
set_option maxRecDepth 100000 in
theorem n27 : (apt.casesV 27).length = 3 := by kernel_rfl
set_option maxRecDepth 100000 in
theorem g27 : ∀ j : Nat, j < (apt.casesV 27).length → enc.vat 27 j = true := by
  intro j hj
  rw [n27] at hj
  by_cases h : j < 1
  · exact List.all_eq_true.1 w27x0 j (List.mem_range'_1.2 ⟨by omega, by omega⟩)
  by_cases h : j < 2
  · exact List.all_eq_true.1 w27x1 j (List.mem_range'_1.2 ⟨by omega, by omega⟩)
  by_cases h : j < 3
  · exact List.all_eq_true.1 w27x2 j (List.mem_range'_1.2 ⟨by omega, by omega⟩)
  omega
set_option maxRecDepth 100000 in
theorem n28 : (apt.casesV 28).length = 3 := by kernel_rfl
set_option maxRecDepth 100000 in
theorem g28 : ∀ j : Nat, j < (apt.casesV 28).length → enc.vat 28 j = true := by
  intro j hj
  rw [n28] at hj
  by_cases h : j < 2
  · exact List.all_eq_true.1 w28x0 j (List.mem_range'_1.2 ⟨by omega, by omega⟩)
  by_cases h : j < 3
  · exact List.all_eq_true.1 w28x2 j (List.mem_range'_1.2 ⟨by omega, by omega⟩)
  omega
set_option maxRecDepth 100000 in
theorem n29 : (apt.casesV 29).length = 3 := by kernel_rfl
set_option maxRecDepth 100000 in
theorem g29 : ∀ j : Nat, j < (apt.casesV 29).length → enc.vat 29 j = true := by
  intro j hj
  rw [n29] at hj
  by_cases h : j < 1
  · exact List.all_eq_true.1 w29x0 j (List.mem_range'_1.2 ⟨by omega, by omega⟩)
  by_cases h : j < 2
  · exact List.all_eq_true.1 w29x1 j (List.mem_range'_1.2 ⟨by omega, by omega⟩)
  by_cases h : j < 3
  · exact List.all_eq_true.1 w29x2 j (List.mem_range'_1.2 ⟨by omega, by omega⟩)
  omega
set_option maxRecDepth 100000 in
theorem n30 : (apt.casesV 30).length = 3 := by kernel_rfl
set_option maxRecDepth 100000 in
theorem g30 : ∀ j : Nat, j < (apt.casesV 30).length → enc.vat 30 j = true := by
  intro j hj
  rw [n30] at hj
  by_cases h : j < 1
  · exact List.all_eq_true.1 w30x0 j (List.mem_range'_1.2 ⟨by omega, by omega⟩)
  by_cases h : j < 2
  · exact List.all_eq_true.1 w30x1 j (List.mem_range'_1.2 ⟨by omega, by omega⟩)
  by_cases h : j < 3
  · exact List.all_eq_true.1 w30x2 j (List.mem_range'_1.2 ⟨by omega, by omega⟩)
  omega
set_option maxRecDepth 100000 in
theorem n31 : (apt.casesV 31).length = 16 := by kernel_rfl
set_option maxRecDepth 100000 in
theorem g31 : ∀ j : Nat, j < (apt.casesV 31).length → enc.vat 31 j = true := by
  intro j hj
  rw [n31] at hj
  by_cases h : j < 1
  · exact List.all_eq_true.1 w31x0 j (List.mem_range'_1.2 ⟨by omega, by omega⟩)
  by_cases h : j < 2
  · exact List.all_eq_true.1 w31x1 j (List.mem_range'_1.2 ⟨by omega, by omega⟩)
  by_cases h : j < 3
  · exact List.all_eq_true.1 w31x2 j (List.mem_range'_1.2 ⟨by omega, by omega⟩)
  by_cases h : j < 4
  · exact List.all_eq_true.1 w31x3 j (List.mem_range'_1.2 ⟨by omega, by omega⟩)
  by_cases h : j < 5
  · exact List.all_eq_true.1 w31x4 j (List.mem_range'_1.2 ⟨by omega, by omega⟩)
  by_cases h : j < 6
  · exact List.all_eq_true.1 w31x5 j (List.mem_range'_1.2 ⟨by omega, by omega⟩)
  by_cases h : j < 7
  · exact List.all_eq_true.1 w31x6 j (List.mem_range'_1.2 ⟨by omega, by omega⟩)
  by_cases h : j < 8
  · exact List.all_eq_true.1 w31x7 j (List.mem_range'_1.2 ⟨by omega, by omega⟩)
  by_cases h : j < 9
  · exact List.all_eq_true.1 w31x8 j (List.mem_range'_1.2 ⟨by omega, by omega⟩)
  by_cases h : j < 10
  · exact List.all_eq_true.1 w31x9 j (List.mem_range'_1.2 ⟨by omega, by omega⟩)
  by_cases h : j < 11
  · exact List.all_eq_true.1 w31x10 j (List.mem_range'_1.2 ⟨by omega, by omega⟩)
  by_cases h : j < 12
  · exact List.all_eq_true.1 w31x11 j (List.mem_range'_1.2 ⟨by omega, by omega⟩)
  by_cases h : j < 13
  · exact List.all_eq_true.1 w31x12 j (List.mem_range'_1.2 ⟨by omega, by omega⟩)
  by_cases h : j < 14
  · exact List.all_eq_true.1 w31x13 j (List.mem_range'_1.2 ⟨by omega, by omega⟩)
  by_cases h : j < 15
  · exact List.all_eq_true.1 w31x14 j (List.mem_range'_1.2 ⟨by omega, by omega⟩)
  by_cases h : j < 16
  · exact List.all_eq_true.1 w31x15 j (List.mem_range'_1.2 ⟨by omega, by omega⟩)
  omega
set_option maxRecDepth 100000 in
theorem n32 : (apt.casesV 32).length = 16 := by kernel_rfl
set_option maxRecDepth 100000 in
theorem g32 : ∀ j : Nat, j < (apt.casesV 32).length → enc.vat 32 j = true := by
  intro j hj
  rw [n32] at hj
  by_cases h : j < 1
  · exact List.all_eq_true.1 w32x0 j (List.mem_range'_1.2 ⟨by omega, by omega⟩)
  by_cases h : j < 2
  · exact List.all_eq_true.1 w32x1 j (List.mem_range'_1.2 ⟨by omega, by omega⟩)
  by_cases h : j < 3
  · exact List.all_eq_true.1 w32x2 j (List.mem_range'_1.2 ⟨by omega, by omega⟩)
  by_cases h : j < 4
  · exact List.all_eq_true.1 w32x3 j (List.mem_range'_1.2 ⟨by omega, by omega⟩)
  by_cases h : j < 5
  · exact List.all_eq_true.1 w32x4 j (List.mem_range'_1.2 ⟨by omega, by omega⟩)
  by_cases h : j < 6
  · exact List.all_eq_true.1 w32x5 j (List.mem_range'_1.2 ⟨by omega, by omega⟩)
  by_cases h : j < 7
  · exact List.all_eq_true.1 w32x6 j (List.mem_range'_1.2 ⟨by omega, by omega⟩)
  by_cases h : j < 8
  · exact List.all_eq_true.1 w32x7 j (List.mem_range'_1.2 ⟨by omega, by omega⟩)
  by_cases h : j < 9
  · exact List.all_eq_true.1 w32x8 j (List.mem_range'_1.2 ⟨by omega, by omega⟩)
  by_cases h : j < 10
  · exact List.all_eq_true.1 w32x9 j (List.mem_range'_1.2 ⟨by omega, by omega⟩)
  by_cases h : j < 11
  · exact List.all_eq_true.1 w32x10 j (List.mem_range'_1.2 ⟨by omega, by omega⟩)
  by_cases h : j < 12
  · exact List.all_eq_true.1 w32x11 j (List.mem_range'_1.2 ⟨by omega, by omega⟩)
  by_cases h : j < 13
  · exact List.all_eq_true.1 w32x12 j (List.mem_range'_1.2 ⟨by omega, by omega⟩)
  by_cases h : j < 14
  · exact List.all_eq_true.1 w32x13 j (List.mem_range'_1.2 ⟨by omega, by omega⟩)
  by_cases h : j < 15
  · exact List.all_eq_true.1 w32x14 j (List.mem_range'_1.2 ⟨by omega, by omega⟩)
  by_cases h : j < 16
  · exact List.all_eq_true.1 w32x15 j (List.mem_range'_1.2 ⟨by omega, by omega⟩)
  omega
set_option maxRecDepth 100000 in
theorem n33 : (apt.casesV 33).length = 2 := by kernel_rfl
set_option maxRecDepth 100000 in
theorem g33 : ∀ j : Nat, j < (apt.casesV 33).length → enc.vat 33 j = true := by
  intro j hj
  rw [n33] at hj
  by_cases h : j < 2
  · exact List.all_eq_true.1 w33x0 j (List.mem_range'_1.2 ⟨by omega, by omega⟩)
  omega
set_option maxRecDepth 100000 in
theorem n34 : (apt.casesV 34).length = 2 := by kernel_rfl
set_option maxRecDepth 100000 in
theorem g34 : ∀ j : Nat, j < (apt.casesV 34).length → enc.vat 34 j = true := by
  intro j hj
  rw [n34] at hj
  by_cases h : j < 1
  · exact List.all_eq_true.1 w34x0 j (List.mem_range'_1.2 ⟨by omega, by omega⟩)
  by_cases h : j < 2
  · exact List.all_eq_true.1 w34x1 j (List.mem_range'_1.2 ⟨by omega, by omega⟩)
  omega
set_option maxRecDepth 100000 in
theorem n35 : (apt.casesV 35).length = 5 := by kernel_rfl
set_option maxRecDepth 100000 in
theorem g35 : ∀ j : Nat, j < (apt.casesV 35).length → enc.vat 35 j = true := by
  intro j hj
  rw [n35] at hj
  by_cases h : j < 2
  · exact List.all_eq_true.1 w35x0 j (List.mem_range'_1.2 ⟨by omega, by omega⟩)
  by_cases h : j < 3
  · exact List.all_eq_true.1 w35x2 j (List.mem_range'_1.2 ⟨by omega, by omega⟩)
  by_cases h : j < 5
  · exact List.all_eq_true.1 w35x3 j (List.mem_range'_1.2 ⟨by omega, by omega⟩)
  omega
set_option maxRecDepth 100000 in
theorem n36 : (apt.casesV 36).length = 2 := by kernel_rfl
set_option maxRecDepth 100000 in
theorem g36 : ∀ j : Nat, j < (apt.casesV 36).length → enc.vat 36 j = true := by
  intro j hj
  rw [n36] at hj
  by_cases h : j < 2
  · exact List.all_eq_true.1 w36x0 j (List.mem_range'_1.2 ⟨by omega, by omega⟩)
  omega
set_option maxRecDepth 100000 in
theorem n37 : (apt.casesV 37).length = 2 := by kernel_rfl
set_option maxRecDepth 100000 in
theorem g37 : ∀ j : Nat, j < (apt.casesV 37).length → enc.vat 37 j = true := by
  intro j hj
  rw [n37] at hj
  by_cases h : j < 2
  · exact List.all_eq_true.1 w37x0 j (List.mem_range'_1.2 ⟨by omega, by omega⟩)
  omega
set_option maxRecDepth 100000 in
theorem n38 : (apt.casesV 38).length = 2 := by kernel_rfl
set_option maxRecDepth 100000 in
theorem g38 : ∀ j : Nat, j < (apt.casesV 38).length → enc.vat 38 j = true := by
  intro j hj
  rw [n38] at hj
  by_cases h : j < 2
  · exact List.all_eq_true.1 w38x0 j (List.mem_range'_1.2 ⟨by omega, by omega⟩)
  omega
set_option maxRecDepth 100000 in
theorem n39 : (apt.casesV 39).length = 2 := by kernel_rfl
set_option maxRecDepth 100000 in
theorem g39 : ∀ j : Nat, j < (apt.casesV 39).length → enc.vat 39 j = true := by
  intro j hj
  rw [n39] at hj
  by_cases h : j < 2
  · exact List.all_eq_true.1 w39x0 j (List.mem_range'_1.2 ⟨by omega, by omega⟩)
  omega
set_option maxRecDepth 100000 in
theorem n40 : (apt.casesV 40).length = 3 := by kernel_rfl
set_option maxRecDepth 100000 in
theorem g40 : ∀ j : Nat, j < (apt.casesV 40).length → enc.vat 40 j = true := by
  intro j hj
  rw [n40] at hj
  by_cases h : j < 3
  · exact List.all_eq_true.1 w40x0 j (List.mem_range'_1.2 ⟨by omega, by omega⟩)
  omega
set_option maxRecDepth 100000 in
theorem n41 : (apt.casesV 41).length = 3 := by kernel_rfl
set_option maxRecDepth 100000 in
theorem g41 : ∀ j : Nat, j < (apt.casesV 41).length → enc.vat 41 j = true := by
  intro j hj
  rw [n41] at hj
  by_cases h : j < 2
  · exact List.all_eq_true.1 w41x0 j (List.mem_range'_1.2 ⟨by omega, by omega⟩)
  by_cases h : j < 3
  · exact List.all_eq_true.1 w41x2 j (List.mem_range'_1.2 ⟨by omega, by omega⟩)
  omega
set_option maxRecDepth 100000 in
theorem n42 : (apt.casesV 42).length = 2 := by kernel_rfl
set_option maxRecDepth 100000 in
theorem g42 : ∀ j : Nat, j < (apt.casesV 42).length → enc.vat 42 j = true := by
  intro j hj
  rw [n42] at hj
  by_cases h : j < 2
  · exact List.all_eq_true.1 w42x0 j (List.mem_range'_1.2 ⟨by omega, by omega⟩)
  omega
set_option maxRecDepth 100000 in
theorem n43 : (apt.casesV 43).length = 2 := by kernel_rfl
set_option maxRecDepth 100000 in
theorem g43 : ∀ j : Nat, j < (apt.casesV 43).length → enc.vat 43 j = true := by
  intro j hj
  rw [n43] at hj
  by_cases h : j < 2
  · exact List.all_eq_true.1 w43x0 j (List.mem_range'_1.2 ⟨by omega, by omega⟩)
  omega
set_option maxRecDepth 100000 in
theorem n44 : (apt.casesV 44).length = 2 := by kernel_rfl
set_option maxRecDepth 100000 in
theorem g44 : ∀ j : Nat, j < (apt.casesV 44).length → enc.vat 44 j = true := by
  intro j hj
  rw [n44] at hj
  by_cases h : j < 2
  · exact List.all_eq_true.1 w44x0 j (List.mem_range'_1.2 ⟨by omega, by omega⟩)
  omega
set_option maxRecDepth 100000 in
theorem n45 : (apt.casesV 45).length = 2 := by kernel_rfl
set_option maxRecDepth 100000 in
theorem g45 : ∀ j : Nat, j < (apt.casesV 45).length → enc.vat 45 j = true := by
  intro j hj
  rw [n45] at hj
  by_cases h : j < 2
  · exact List.all_eq_true.1 w45x0 j (List.mem_range'_1.2 ⟨by omega, by omega⟩)
  omega
set_option maxRecDepth 100000 in
theorem all : ∀ k : Nat, 1 ≤ k → k ≤ 45 → ∀ j : Nat, j < (apt.casesV k).length → enc.vat k j = true := by
  intro k h h'
  match k, h, h' with
  | 1, _, _ => exact g1
  | 2, _, _ => exact g2
  | 3, _, _ => exact g3
  | 4, _, _ => exact g4
  | 5, _, _ => exact g5
  | 6, _, _ => exact g6
  | 7, _, _ => exact g7
  | 8, _, _ => exact g8
  | 9, _, _ => exact g9
  | 10, _, _ => exact g10
  | 11, _, _ => exact g11
  | 12, _, _ => exact g12
  | 13, _, _ => exact g13
  | 14, _, _ => exact g14
  | 15, _, _ => exact g15
  | 16, _, _ => exact g16
  | 17, _, _ => exact g17
  | 18, _, _ => exact g18
  | 19, _, _ => exact g19
  | 20, _, _ => exact g20
  | 21, _, _ => exact g21
  | 22, _, _ => exact g22
  | 23, _, _ => exact g23
  | 24, _, _ => exact g24
  | 25, _, _ => exact g25
  | 26, _, _ => exact g26
  | 27, _, _ => exact g27
  | 28, _, _ => exact g28
  | 29, _, _ => exact g29
  | 30, _, _ => exact g30
  | 31, _, _ => exact g31
  | 32, _, _ => exact g32
  | 33, _, _ => exact g33
  | 34, _, _ => exact g34
  | 35, _, _ => exact g35
  | 36, _, _ => exact g36
  | 37, _, _ => exact g37
  | 38, _, _ => exact g38
  | 39, _, _ => exact g39
  | 40, _, _ => exact g40
  | 41, _, _ => exact g41
  | 42, _, _ => exact g42
  | 43, _, _ => exact g43
  | 44, _, _ => exact g44
  | 45, _, _ => exact g45
  | n + 46, _, h' => omega
set_option maxRecDepth 100000 in
theorem cov : ∀ k : Nat, 1 ≤ k → k ≤ 45 → apt.covV k = true := by
  intro k h h'
  match k, h, h' with
  | 1, _, _ => exact c1
  | 2, _, _ => exact c2
  | 3, _, _ => exact c3
  | 4, _, _ => exact c4
  | 5, _, _ => exact c5
  | 6, _, _ => exact c6
  | 7, _, _ => exact c7
  | 8, _, _ => exact c8
  | 9, _, _ => exact c9
  | 10, _, _ => exact c10
  | 11, _, _ => exact c11
  | 12, _, _ => exact c12
  | 13, _, _ => exact c13
  | 14, _, _ => exact c14
  | 15, _, _ => exact c15
  | 16, _, _ => exact c16
  | 17, _, _ => exact c17
  | 18, _, _ => exact c18
  | 19, _, _ => exact c19
  | 20, _, _ => exact c20
  | 21, _, _ => exact c21
  | 22, _, _ => exact c22
  | 23, _, _ => exact c23
  | 24, _, _ => exact c24
  | 25, _, _ => exact c25
  | 26, _, _ => exact c26
  | 27, _, _ => exact c27
  | 28, _, _ => exact c28
  | 29, _, _ => exact c29
  | 30, _, _ => exact c30
  | 31, _, _ => exact c31
  | 32, _, _ => exact c32
  | 33, _, _ => exact c33
  | 34, _, _ => exact c34
  | 35, _, _ => exact c35
  | 36, _, _ => exact c36
  | 37, _, _ => exact c37
  | 38, _, _ => exact c38
  | 39, _, _ => exact c39
  | 40, _, _ => exact c40
  | 41, _, _ => exact c41
  | 42, _, _ => exact c42
  | 43, _, _ => exact c43
  | 44, _, _ => exact c44
  | 45, _, _ => exact c45
  | n + 46, _, h' => omega
set_option maxRecDepth 100000 in
theorem ex {x : Fields} (hx : x.Ok) (it : Bool) : ∃ p, EncX enc.exLong 12 17 2 x it p := xxV encS_ok encS_body hx it lo hi cov all
end Go.Proofs.YtmaaibffgoanpaaGreatDoor.env
/- For the seat: the reference's encoders together: at a width; the shortest. -/
namespace Go.Proofs.YtmaaibffgoanpaaGreatDoor
open Go.Sx Go.ChangeShapes Go.WideShapes Go.RowKit Go.Joins Go.Deep

abbrev NrwP (x : Fields) (it : Bool) (p : List Int × Bool) : Prop := EncX enc.exShort 13 16 1 x it p
abbrev WdeP (x : Fields) (it : Bool) (p : List Int × Bool) : Prop := EncX enc.exLong 12 17 2 x it p
open Classical in
noncomputable def nrwOf (x : Fields) (it : Bool) : List Int × Bool := if h : ∃ p, NrwP x it p then Classical.choose h else ([], false)
open Classical in
noncomputable def wdeOf (x : Fields) (it : Bool) : List Int × Bool := if h : ∃ p, WdeP x it p then Classical.choose h else ([], false)
set_option maxRecDepth 100000 in
theorem nrwOf_ok {x : Fields} (hx : x.Ok) (it : Bool) : NrwP x it (nrwOf x it) := by
  unfold nrwOf
  rw [dif_pos (enn.ex hx it)]
  exact Classical.choose_spec (enn.ex hx it)
set_option maxRecDepth 100000 in
theorem wdeOf_ok {x : Fields} (hx : x.Ok) (it : Bool) : WdeP x it (wdeOf x it) := by
  unfold wdeOf
  rw [dif_pos (env.ex hx it)]
  exact Classical.choose_spec (env.ex hx it)

def pickE (p : List Int × Bool) : List Int × Int := if p.2 then (p.1, 0) else ([], 6)
/-- The halfwords at a width; the error's number. -/
noncomputable def encOf (x : Fields) (wide it : Bool) : List Int × Int := if wide then pickE (wdeOf x it) else pickE (nrwOf x it)
noncomputable def bestOf (x : Fields) (it : Bool) : List Int × Int := if (encOf x false it).2 = 0 then ((encOf x false it).1, 0) else encOf x true it

/-- The answer: halfwords and an error's number. -/
def RetE (p : List Int × Int) (e : Ending) (w w' : World) : Prop := ∃ A cap, e = .returned (.tuple #[.slice A p.1.length cap, .int .i64 p.2]) ∧ IAt w' w'.heap.size A p.1 ∧ p.1.length ≤ cap ∧ Below w.heap.size w w'

set_option maxRecDepth 100000 in
theorem enc_wide {x : Fields} {it : Bool} {a b : Int} {ok : Bool} (hA : Ans 12 [x.val, .bool it] (.tuple #[.int .i64 a, .int .i64 b, .bool ok])) (w : World) (hw : Laid w) :
    Calls Tryz.prog 5 #[x.val, .bool true, .bool it] w fun e w' => RetE (pickE ([a, b], ok)) e w w' := by
  have b0 : Below w.heap.size w (w.alloc (.cells x.cells 23)) := (Below.refl _ _).alloc (Nat.le_refl _) _
  have hl := laid_below hw b0
  obtain ⟨x0, x1, x2, x3, x4, x5, x6, x7, xb⟩ := x
  dsimp only [Fields.val] at hA ⊢
  go_enter Tryz.func5, Tryz.ntmps5
  go_wp2_with fail
  ((with_reducible refine (hA.go hl).mono ?_); rintro e w1 ⟨rfl, hb1⟩)
  have b1 := b0.trans (hb1.mono (by simp))
  cases ok
  · go_wp2_with fail
    refine bodyPost_ret (results_tmp2 rfl _ _ _) rfl ?_
    exact ⟨none, 0, rfl, IAt.nil _ _ _, by simp [pickE], b1⟩
  · go_wp2_with fail
    refine bodyPost_ret (results_tmp2 rfl _ _ _) rfl ?_
    exact ⟨_, 2, rfl, iat_new w1 _ [a, b], by simp [pickE], b1.alloc b1.size _⟩

set_option maxRecDepth 100000 in
theorem enc_short {x : Fields} {it : Bool} {a : Int} {ok : Bool} (hA : Ans 13 [x.val, .bool it] (.tuple #[.int .i64 a, .bool ok])) (w : World) (hw : Laid w) :
    Calls Tryz.prog 5 #[x.val, .bool false, .bool it] w fun e w' => RetE (pickE ([a], ok)) e w w' := by
  have b0 : Below w.heap.size w (w.alloc (.cells x.cells 23)) := (Below.refl _ _).alloc (Nat.le_refl _) _
  have hl := laid_below hw b0
  obtain ⟨x0, x1, x2, x3, x4, x5, x6, x7, xb⟩ := x
  dsimp only [Fields.val] at hA ⊢
  go_enter Tryz.func5, Tryz.ntmps5
  go_wp2_with fail
  ((with_reducible refine (hA.go hl).mono ?_); rintro e w1 ⟨rfl, hb1⟩)
  have b1 := b0.trans (hb1.mono (by simp))
  cases ok
  · go_wp2_with fail
    refine bodyPost_ret (results_tmp2 rfl _ _ _) rfl ?_
    exact ⟨none, 0, rfl, IAt.nil _ _ _, by simp [pickE], b1⟩
  · go_wp2_with fail
    refine bodyPost_ret (results_tmp2 rfl _ _ _) rfl ?_
    exact ⟨_, 1, rfl, iat_new w1 _ [a], by simp [pickE], b1.alloc b1.size _⟩

set_option maxRecDepth 100000 in
theorem enc_any {x : Fields} (hx : x.Ok) (wide it : Bool) (w : World) (hw : Laid w) : Calls Tryz.prog 5 #[x.val, .bool wide, .bool it] w fun e w' => RetE (encOf x wide it) e w w' := by
  cases wide
  · have h := (nrwOf_ok hx it).enc
    unfold encOf
    rw [if_neg (by decide)]
    generalize nrwOf x it = q at h ⊢
    obtain ⟨p, ok⟩ := q
    match p, h with
    | [a], h => exact enc_short h.enc w hw
    | [], h => exact absurd h.len (by simp)
    | _ :: _ :: _, h => exact absurd h.len (by simp)
  · have h := (wdeOf_ok hx it).enc
    unfold encOf
    rw [if_pos rfl]
    generalize wdeOf x it = q at h ⊢
    obtain ⟨p, ok⟩ := q
    match p, h with
    | [a, b], h => exact enc_wide h.enc w hw
    | [], h => exact absurd h.len (by simp)
    | [_], h => exact absurd h.len (by simp)
    | _ :: _ :: _ :: _, h => exact absurd h.len (by simp)

set_option maxRecDepth 100000 in
theorem encOf_err (x : Fields) (wide it : Bool) : (encOf x wide it).2 = 0 ∨ (encOf x wide it).2 = 6 := by
  unfold encOf pickE
  split <;> split <;> simp

set_option maxRecDepth 100000 in
theorem best_any {x : Fields} (hx : x.Ok) (it : Bool) (w : World) (hw : Laid w) : Calls Tryz.prog 8 #[x.val, .bool it] w fun e w' => RetE (bestOf x it) e w w' := by
  have b0 : Below w.heap.size w (w.alloc (.cells x.cells 23)) := (Below.refl _ _).alloc (Nat.le_refl _) _
  have i0 : InsAt (w.alloc (.cells x.cells 23)) w.heap.size x := InsAt.new _ _ _
  have hl := laid_below hw b0
  have hS := fun w1 hw1 => enc_any hx false it w1 hw1
  have hL := fun w1 hw1 => enc_any hx true it w1 hw1
  have he := encOf_err x false it
  unfold bestOf
  generalize encOf x false it = p at *
  generalize encOf x true it = q at *
  obtain ⟨l, e⟩ := p
  obtain ⟨m, f⟩ := q
  clear hx
  have IZ := Lib.hid i0
  clear i0
  obtain ⟨x0, x1, x2, x3, x4, x5, x6, x7, xb⟩ := x
  dsimp only [Fields.val] at hS hL ⊢
  go_enter Tryz.func8, Tryz.ntmps8
  go_wp2_with fail
  ((with_reducible refine (hS _ hl).mono ?_); rintro e1 w1 ⟨A, cap, rfl, hA, hcap, hb1⟩)
  have b1 := b0.trans (hb1.mono (by simp))
  have hl1 := laid_below hw b1
  obtain ⟨⟨p0, p1, p2, p3, p4, p5, p6, p7, p8⟩, _⟩ := IZ.out.below hb1 (by simp)
  simp only at p0 p1 p2 p3 p4 p5 p6 p7 p8
  rcases he with rfl | rfl
  · go_wp2_with fail
    refine bodyPost_ret (results_tmp2 rfl _ _ _) rfl ?_
    exact ⟨A, cap, rfl, hA, hcap, b1⟩
  · go_wp2_with fail
    ((with_reducible refine (hL _ hl1).mono ?_); rintro e1 w2 ⟨A', cap', rfl, hA', hcap', hb2⟩)
    go_wp2_with fail
    refine bodyPost_ret (results_tmp2 rfl _ _ _) rfl ?_
    exact ⟨A', cap', rfl, hA', hcap', b1.trans (hb2.mono b1.size)⟩
end Go.Proofs.YtmaaibffgoanpaaGreatDoor
/- For the seat: chapter 12's example holds. -/
namespace Go.Proofs.YtmaaibffgoanpaaGreatDoor
open Go.Sx Go.ChangeShapes Go.WideShapes Go.RowKit Go.Joins Go.Deep

set_option maxRecDepth 100000 in
theorem stream_calls (l : List Int) (A : Option Addr) (cap : Nat) (w : World) (hA : IAt w w.heap.size A l) (hl : ∀ a ∈ l, kHas .i64 a) (hlen : l.length ≤ 4000000000) (hcap : l.length ≤ cap) (hw : Laid w) :
    Calls Tryz.prog 10 #[.slice A l.length cap] w fun e w' => ∃ v1 v2, e = .returned (.tuple #[v1, v2]) ∧ StR w.heap.size (strmA l 0 0) v1 v2 w' ∧ Below w.heap.size w w' :=
  callsIn_wide.1 (stream_in l A cap w hA hl hlen hcap hw (by obtain ⟨t, fz, h⟩ := hw; exact (Array.getElem?_eq_some_iff.1 h).1))

set_option maxRecDepth 100000 in
theorem encF_get : ∀ (l : List (Nat × Fields)) (i : Nat) (x : Fields), (l.map Prod.snd)[i]? = some x → ∀ (j : Nat) (v : Value), x.cells[j]? = some v → (encF l)[i * 9 + j]? = some v
  | [], i, x, h, _, _, _ => by simp at h
  | y :: l, 0, x, h, j, v, hv => by
    simp at h
    subst h
    have hj : j < 9 := by have := (Array.getElem?_eq_some_iff.1 hv).1; simpa using this
    rw [show encF (y :: l) = y.2.cells.toList ++ encF l from by simp [encF], List.getElem?_append_left (by simpa using hj), Nat.zero_mul, Nat.zero_add]
    simpa using hv
  | y :: l, i + 1, x, h, j, v, hv => by
    have h' : (l.map Prod.snd)[i]? = some x := by simpa using h
    rw [show encF (y :: l) = y.2.cells.toList ++ encF l from by simp [encF], List.getElem?_append_right (by simp; omega)]
    rw [show (i + 1) * 9 + j - y.2.cells.toList.length = i * 9 + j from by simp; omega]
    exact encF_get l i x h' j v hv

set_option maxRecDepth 100000 in
/-- The rows that Stream gives, as such. -/
theorem str_rows {n₀ : Nat} {l : List (Nat × Fields)} {v1 v2 : Value} {W : World} (h : StR n₀ l v1 v2 W) : ∃ A B ca cb, v1 = .slice A l.length ca ∧ v2 = .slice B l.length cb ∧ FAt W W.heap.size A (l.map Prod.snd) ∧ IAt W W.heap.size B (l.map fun x => (x.1 : Int)) ∧ l.length ≤ ca ∧ l.length ≤ cb := by
  have z : ∀ (g n : Nat), (⟨g, 0, none⟩ : Addr).add n = ⟨g, n, none⟩ := fun g n => by unfold Addr.add; split <;> simp_all
  have r1 := h.r1
  have r2 := h.r2
  by_cases hl : l = []
  · subst hl
    obtain rfl := h.e1.2 rfl
    obtain rfl := h.e2.2 rfl
    exact ⟨none, none, 0, 0, rfl, rfl, fun hn => absurd rfl hn, fun hn => absurd rfl hn, by simp, by simp⟩
  · have k1 := fun e => hl (h.e1.1 e)
    have k2 := fun e => hl (h.e2.1 e)
    rcases r1.2 with ⟨e, _⟩ | ⟨g, ca, cur, rfl, _, hh, hc, _⟩
    · exact absurd e k1
    rcases r2.2 with ⟨e, _⟩ | ⟨g', cb, cur', rfl, _, hh', hc', _⟩
    · exact absurd e k2
    refine ⟨_, _, ca, cb, rfl, rfl, fun _ => ⟨g, 0, rfl, (Array.getElem?_eq_some_iff.1 hh).1, fun i x hx j v hv => ?_⟩, fun _ => ⟨g', 0, rfl, (Array.getElem?_eq_some_iff.1 hh').1, fun i a ha => ?_⟩, hc, hc'⟩
    · have := r1.cells (g := g) rfl (i * 9 + j) v (encF_get l i x hx j v hv)
      rw [z] at this
      rw [Nat.zero_add]
      exact this
    · have := r2.cells (g := g') rfl i (.int .i64 a) (by simpa [encP] using ha)
      rw [z] at this
      rw [Nat.zero_add]
      exact this

set_option maxRecDepth 100000 in
theorem laid_pos {w : World} (hw : Laid w) : 0 < w.heap.size := by obtain ⟨t, fz, h⟩ := hw; exact (Array.getElem?_eq_some_iff.1 h).1

set_option maxRecDepth 100000 in
theorem lit_call4 (W : World) (b : Nat) (hb : b = W.heap.size) (hw : Laid W) : Calls Tryz.prog 7 #[.slice (some ⟨b, 0, none⟩) 1 1, .bool false] (W.alloc (.cells #[.int .i64 61519] 3)) fun e w' => RetD zeroF 0 2 e (W.alloc (.cells #[.int .i64 61519] 3)) w' := by
  subst hb
  have := dec_any [61519] _ 1 false _ (iat_new W 3 [61519]) (fun a ha => by simp only [List.mem_cons, List.not_mem_nil, or_false] at ha; subst ha; exact has_lit 61519 (by decide)) (by decide) (laid_below hw ((Below.refl _ _).alloc (Nat.le_refl _) _))
  rw [lit_dec4] at this
  exact this
set_option maxRecDepth 100000 in
theorem lit_call5 (W : World) (b : Nat) (hb : b = W.heap.size) (hw : Laid W) : Calls Tryz.prog 7 #[.slice (some ⟨b, 0, none⟩) 1 1, .bool false] (W.alloc (.cells #[.int .i64 56832] 3)) fun e w' => RetD zeroF 0 10 e (W.alloc (.cells #[.int .i64 56832] 3)) w' := by
  subst hb
  have := dec_any [56832] _ 1 false _ (iat_new W 3 [56832]) (fun a ha => by simp only [List.mem_cons, List.not_mem_nil, or_false] at ha; subst ha; exact has_lit 56832 (by decide)) (by decide) (laid_below hw ((Below.refl _ _).alloc (Nat.le_refl _) _))
  rw [lit_dec5] at this
  exact this
set_option maxRecDepth 100000 in
theorem lit_call6 (W : World) (b : Nat) (hb : b = W.heap.size) (hw : Laid W) : Calls Tryz.prog 7 #[.slice (some ⟨b, 0, none⟩) 2 2, .bool false] (W.alloc (.cells #[.int .i64 61519, .int .i64 1] 3)) fun e w' => RetD ⟨10, 0, 0, 0, 0, 1, 1, 0, false⟩ 2 0 e (W.alloc (.cells #[.int .i64 61519, .int .i64 1] 3)) w' := by
  subst hb
  have := dec_any [61519, 1] _ 2 false _ (iat_new W 3 [61519, 1]) (fun a ha => by
    simp only [List.mem_cons, List.not_mem_nil, or_false] at ha
    rcases ha with rfl | rfl
    · exact has_lit 61519 (by decide)
    · exact has_lit 1 (by decide)) (by decide) (laid_below hw ((Below.refl _ _).alloc (Nat.le_refl _) _))
  rw [lit_dec6] at this
  exact this
set_option maxRecDepth 100000 in
theorem lit_ints (W : World) (b : Nat) (A : Option Addr) (ca : Nat) (hb : b = W.heap.size) (hA : IAt W W.heap.size A [0, 1]) (hc : 2 ≤ ca) : Calls Tryz.prog 14 #[.slice A 2 ca, .slice (some ⟨b, 0, none⟩) 2 2] (W.alloc (.cells #[.int .i64 0, .int .i64 1] 3)) fun e w' => e = .returned (.bool true) ∧ Below (W.heap.size + 1) (W.alloc (.cells #[.int .i64 0, .int .i64 1] 3)) w' := by
  subst hb
  have := ints_r [0, 1] [0, 1] A (some ⟨W.heap.size, 0, none⟩) ca 2 (W.alloc (.cells #[.int .i64 0, .int .i64 1] 3)) ((hA.below ((Below.refl _ _).alloc (Nat.le_refl _) _) (Nat.le_refl _)).more (by simp)) (iat_new W 3 [0, 1]) (by decide) hc (by decide) (by decide)
  refine this.mono ?_
  rintro e w' ⟨rfl, h⟩
  exact ⟨by simp, by simpa using h⟩
set_option maxRecDepth 100000 in
/-- An instruction's store into a block that was not there. -/
theorem below9 {n : Nat} {w W : World} (h : Below n w W) {b : Nat} (hb : n ≤ b) (v0 v1 v2 v3 v4 v5 v6 v7 v8 : Value) : Below n w (((((((((W.setCell ⟨b, 0, none⟩ v0).setCell ⟨b, 1, none⟩ v1).setCell ⟨b, 2, none⟩ v2).setCell ⟨b, 3, none⟩ v3).setCell ⟨b, 4, none⟩ v4).setCell ⟨b, 5, none⟩ v5).setCell ⟨b, 6, none⟩ v6).setCell ⟨b, 7, none⟩ v7).setCell ⟨b, 8, none⟩ v8) :=
  (((((((((h).setCell (p := ⟨b, 0, none⟩) hb _).setCell (p := ⟨b, 1, none⟩) hb _).setCell (p := ⟨b, 2, none⟩) hb _).setCell (p := ⟨b, 3, none⟩) hb _).setCell (p := ⟨b, 4, none⟩) hb _).setCell (p := ⟨b, 5, none⟩) hb _).setCell (p := ⟨b, 6, none⟩) hb _).setCell (p := ⟨b, 7, none⟩) hb _).setCell (p := ⟨b, 8, none⟩) hb _

set_option maxRecDepth 100000 in
set_option maxHeartbeats 4000000 in
theorem awake_ok (w : World) (hw : Laid w) : Calls Tryz.prog 6 #[] w fun e w' => e = .returned (.bool true) ∧ Below w.heap.size w w' := by
  have b0 : Below w.heap.size w (w.alloc (.cells #[.int .i64 48904, .int .i64 8193, .int .i64 65535] 3)) := (Below.refl _ _).alloc (Nat.le_refl _) _
  have hA0 : IAt (w.alloc (.cells #[.int .i64 48904, .int .i64 8193, .int .i64 65535] 3)) (w.alloc (.cells #[.int .i64 48904, .int .i64 8193, .int .i64 65535] 3)).heap.size (some ⟨w.heap.size, 0, none⟩) [48904, 8193, 65535] := iat_new w _ [48904, 8193, 65535]
  have hS := stream_calls [48904, 8193, 65535] _ 3 _ hA0 (by
    intro a ha
    simp only [List.mem_cons, List.not_mem_nil, or_false] at ha
    rcases ha with rfl | rfl | rfl
    · exact has_lit 48904 (by decide)
    · exact has_lit 8193 (by decide)
    · exact has_lit 65535 (by decide)) (by decide) (by decide) (laid_below hw b0)
  rw [lit_stream] at hS
  change Calls _ _ #[.slice (some ⟨w.heap.size, 0, none⟩) 3 3] _ _ at hS
  clear hA0
  go_enter Tryz.func6, Tryz.ntmps6
  go_wp2_with fail
  ((with_reducible refine hS.mono ?_); rintro e w1 ⟨v1, v2, rfl, hR, hb1⟩)
  obtain ⟨A, B, ca, cb, rfl, rfl, hF, hI, hca, hcb⟩ := str_rows hR
  have c1 : Below w.heap.size w w1 := b0.trans (hb1.mono (by simp))
  have hw1 := laid_below hw c1
  clear hS hR hb1 b0
  go_wp2_with fail
  ((with_reducible refine (dec_nil none 0 false w1).mono ?_); rintro e w2 ⟨rfl, hb2⟩)
  dsimp only [Fields.val]
  have c2 : Below w1.heap.size w1 w2 := hb2
  have d2 := c2.alloc c2.size (.cells #[.int .i64 0, .int .i64 0, .int .i64 0, .int .i64 0, .int .i64 0, .int .i64 0, .int .i64 0, .int .i64 0, .bool false] 23)
  go_wp2_with fail
  ((refine (lit_call4 _ _ (by simp) (laid_below hw1 d2)).mono ?_); rintro e w3 ⟨rfl, hb3⟩)
  have c3 : Below w1.heap.size w1 w3 := (d2.alloc d2.size _).trans (hb3.mono (d2.alloc d2.size _).size)
  have d3 := c3.alloc c3.size (.cells #[.int .i64 0, .int .i64 0, .int .i64 0, .int .i64 0, .int .i64 0, .int .i64 0, .int .i64 0, .int .i64 0, .bool false] 23)
  clear hb3 hb2 d2 c2
  dsimp only [Fields.val]
  go_wp2_with fail
  ((refine (lit_call5 _ _ (by simp) (laid_below hw1 d3)).mono ?_); rintro e w4 ⟨rfl, hb4⟩)
  have c4 : Below w1.heap.size w1 w4 := (d3.alloc d3.size _).trans (hb4.mono (d3.alloc d3.size _).size)
  have d4 := c4.alloc c4.size (.cells #[.int .i64 0, .int .i64 0, .int .i64 0, .int .i64 0, .int .i64 0, .int .i64 0, .int .i64 0, .int .i64 0, .bool false] 23)
  clear hb4 d3 c3
  dsimp only [Fields.val]
  go_wp2_with fail
  ((refine (lit_call6 _ _ (by simp) (laid_below hw1 d4)).mono ?_); rintro e w5 ⟨rfl, hb5⟩)
  have c5 : Below w1.heap.size w1 w5 := (d4.alloc d4.size _).trans (hb5.mono (d4.alloc d4.size _).size)
  have i5 := InsAt.new w5 ⟨10, 0, 0, 0, 0, 1, 1, 0, false⟩ 23
  have d5 := c5.alloc c5.size (.cells #[.int .i64 10, .int .i64 0, .int .i64 0, .int .i64 0, .int .i64 0, .int .i64 1, .int .i64 1, .int .i64 0, .bool false] 23)
  clear hb5 d4 c4
  dsimp only [Fields.val]
  obtain ⟨g, off, hA', hg, hf⟩ := (hF.below d5 (Nat.le_refl _)) (by simp)
  subst hA'
  obtain ⟨g', off', hB', hg', hi⟩ := (hI.below d5 (Nat.le_refl _)) (by simp)
  subst hB'
  have f0 := hf 0 _ rfl 0 _ rfl
  have e0 := hf 1 _ rfl 0 _ rfl
  have e1 := hf 1 _ rfl 1 _ rfl
  have e2 := hf 1 _ rfl 2 _ rfl
  have e3 := hf 1 _ rfl 3 _ rfl
  have e4 := hf 1 _ rfl 4 _ rfl
  have e5 := hf 1 _ rfl 5 _ rfl
  have e6 := hf 1 _ rfl 6 _ rfl
  have e7 := hf 1 _ rfl 7 _ rfl
  have e8 := hf 1 _ rfl 8 _ rfl
  simp only [Nat.zero_mul, Nat.add_zero, Nat.one_mul] at f0 e0 e1 e2 e3 e4 e5 e6 e7 e8
  clear hf
  go_wp2_with fail
  ((refine (lit_ints _ _ _ _ (by simp) ((hI.below d5 (Nat.le_refl _)).more d5.size) hcb).mono ?_); rintro e w6 ⟨rfl, hb6⟩)
  have d6 := d5.alloc d5.size (.cells #[.int .i64 0, .int .i64 1] 3)
  have c6 : Below w1.heap.size w1 w6 := d6.trans (hb6.mono (by have := d5.size; simp at this ⊢; omega))
  obtain ⟨⟨p0, _⟩, _⟩ := (i5.below ((Below.refl _ _).alloc (Nat.le_refl _) (.cells #[.int .i64 0, .int .i64 1] 3)) (by simp)).below hb6 (by simp; omega)
  simp only at p0
  clear i5 f0 e0 e1 e2 e3 e4 e5 e6 e7 e8 hi hI hF
  go_wp2_with fail
  exact bodyPost_ret (results_tmp rfl _ _ _) rfl ⟨rfl, c1.trans (c6.mono c1.size)⟩
#print axioms awake_ok
end Go.Proofs.YtmaaibffgoanpaaGreatDoor
/- For the seat: what is encoded is read back: the plain law; numbers appended to numbers. -/
namespace Go.Proofs.YtmaaibffgoanpaaGreatDoor
open Go.Sx Go.ChangeShapes Go.WideShapes Go.RowKit Go.Joins Go.Deep

set_option maxRecDepth 100000 in
theorem long_den (t : Tm) (ρ : Env) : ((enc.longOf t).den ρ).asBool = longB (t.den ρ).asInt := rfl

set_option maxRecDepth 100000 in
theorem pair_map2 {l : List Tm} {ρ : Env} {a b : Int} (h : (l.map fun t => (t.den ρ).asInt) = [a, b]) : ((l.getD 0 (.num 0)).den ρ).asInt = a := by
  match l, h with
  | [t, u], h => simp at h; exact h.1
set_option maxRecDepth 100000 in
theorem pair_map1 {l : List Tm} {ρ : Env} {a : Int} (h : (l.map fun t => (t.den ρ).asInt) = [a]) : ((l.getD 0 (.num 0)).den ρ).asInt = a := by
  match l, h with
  | [t], h => simp at h; exact h

set_option maxRecDepth 100000 in
/-- What is encoded is of one halfword or two, and is read back, whatever stands behind it. -/
theorem back_law {x : Fields} (hx : x.Ok) {wide it : Bool} (he : (encOf x wide it).2 = 0) :
    (∀ a ∈ (encOf x wide it).1, kHas .i64 a) ∧ 1 ≤ (encOf x wide it).1.length ∧ (encOf x wide it).1.length ≤ 2 ∧ ∀ r, decOf ((encOf x wide it).1 ++ r) it = (x, ((encOf x wide it).1.length : Int), 0) := by
  cases wide
  · have h := nrwOf_ok hx it
    unfold encOf at he ⊢
    rw [if_neg (by decide)] at he ⊢
    generalize nrwOf x it = q at h he ⊢
    obtain ⟨p, ok⟩ := q
    cases ok
    · exact absurd (show (6 : Int) = 0 from he) (by decide)
    have hb := h.more rfl
    have hd := h.enc.dec rfl
    have hh := h.enc.has
    have hlen := h.enc.len
    clear h he
    rcases p with _ | ⟨a, _ | ⟨b, p⟩⟩
    · exact absurd hlen (by simp)
    · have ha : kHas .i64 a := hh a (by simp)
      have e := shortOf_eq ha hd
      obtain ⟨l, ρ, h1, h2⟩ := hb
      have hl : longB a = false := by
        have h2 : (!longB ((l.getD 0 (.num 0)).den ρ).asInt) = true := h2
        rw [pair_map1 h1] at h2
        simpa using h2
      refine ⟨fun b hb => hh b hb, by simp [pickE], by simp [pickE], fun r => ?_⟩
      show decOf (a :: r) it = _
      cases r with
      | nil => rw [decOf_one, hl, if_neg (by decide), e]; rfl
      | cons b r => rw [decOf_two, hl, if_neg (by decide), e]; rfl
    · exact absurd hlen (by simp)
  · have h := wdeOf_ok hx it
    unfold encOf at he ⊢
    rw [if_pos rfl] at he ⊢
    generalize wdeOf x it = q at h he ⊢
    obtain ⟨p, ok⟩ := q
    cases ok
    · exact absurd (show (6 : Int) = 0 from he) (by decide)
    have hb := h.more rfl
    have hd := h.enc.dec rfl
    have hh := h.enc.has
    have hlen := h.enc.len
    clear h he
    rcases p with _ | ⟨a, _ | ⟨b, _ | ⟨c, p⟩⟩⟩
    · exact absurd hlen (by simp)
    · exact absurd hlen (by simp)
    · have ha : kHas .i64 a := hh a (by simp)
      have e := tallOf_eq ha (hh b (by simp)) hd
      obtain ⟨l, ρ, h1, h2⟩ := hb
      have hl : longB a = true := by
        have h2 : longB ((l.getD 0 (.num 0)).den ρ).asInt = true := h2
        rw [pair_map2 h1] at h2
        exact h2
      refine ⟨fun b hb => hh b hb, by simp [pickE], by simp [pickE], fun r => ?_⟩
      show decOf (a :: b :: r) it = _
      rw [decOf_two, hl, if_pos rfl, e]; rfl
    · exact absurd hlen (by simp)

set_option maxRecDepth 100000 in
/-- Numbers appended to numbers of the call's own. -/
theorem app_ints (w0 : World) {ops : Array Oper} {rest : List Oper} {o : Oper} {a : Act} {Q : Exit → Act → World → Prop} (hgd : o.guard = none) (s x : Operand)
    (ho : o.op = .call { callee := .builtin .append, args := #[s, x], argTypes := #[24, 24] }) (base : Nat) (hbase : base ≤ w0.heap.size) (l m : List Int) (hlen : l.length + m.length ≤ 5000000000) (hm : m ≠ [])
    (v : Value) (hs : a.eval s = v) (hown : w0.ownsRow base 3 1 v l.length (encI l)) (A : Option Addr) (n cap B : Nat) (hx : a.eval x = .slice A n cap) (hn : n = m.length) (hA : IAt w0 B A m)
    (h : ∀ v' w', w'.ownsRow base 3 1 v' (l ++ m).length (encI (l ++ m)) → Below base w0 w' → wpList Tryz.prog ops Q rest (a.put o.dst v') w') :
    wpList Tryz.prog ops Q (o :: rest) a w0 := by
  subst hn
  obtain ⟨i0, hi0, hz0, hz1, hz2⟩ := info_parts intInfo
  obtain ⟨g, off, rfl, hg, hc⟩ := hA hm
  refine wpList_append_own _ hgd s x 24 ho base 3 i0 _ 1 8 Tryz.underlying24 hi0 hz0 hz1 hz2 rfl (by decide) v l.length (encI l) hs hown ⟨g, off, none⟩ m.length cap (encI m) hx (by simp [encI]) ?_
    (fun u hu => by simp only [encI, List.mem_map] at hu; obtain ⟨b, _, rfl⟩ := hu; rfl) (by unfold maxLen; omega) (by omega) hbase ?_
  · intro j u hu
    rw [Addr.add_mid]
    simp only [encI, List.getElem?_map, Option.map_eq_some_iff] at hu
    obtain ⟨b, hb, rfl⟩ := hu
    exact hc j b hb
  intro v' w' hown' hgrow _
  refine h v' w' ?_ ?_
  · rw [List.length_append]
    simpa [encI] using hown'
  · exact (Below.refl base w0).grown hgrow hbase (fun j hj => (hown.lt _ hj).1)
set_option maxRecDepth 100000 in
theorem own_sl {w : World} {base : Nat} {e : TypeId} {v : Value} {l : List Int} (h : w.ownsRow base e 1 v l.length (encI l)) (hl : l ≠ []) : ∃ g cap, v = .slice (some ⟨g, 0, none⟩) l.length cap ∧ l.length ≤ cap := by
  rcases h.2 with ⟨_, h0⟩ | ⟨g, cap, _, rfl, _, _, hc, _⟩
  · exact absurd (List.eq_nil_of_length_eq_zero h0) hl
  · exact ⟨g, cap, rfl, hc⟩
end Go.Proofs.YtmaaibffgoanpaaGreatDoor
/- For the seat: the law's function: what is encoded is read back. -/
namespace Go.Proofs.YtmaaibffgoanpaaGreatDoor
open Go.Sx Go.ChangeShapes Go.WideShapes Go.RowKit Go.Joins Go.Deep
attribute [local go_sem ↓] ins_equal ins_guard

set_option maxRecDepth 100000 in
theorem enc_nil {x : Fields} {wide it : Bool} (he : (encOf x wide it).2 = 6) : (encOf x wide it).1 = [] := by
  unfold encOf pickE at *
  split at he <;> split at he <;> simp_all

set_option maxRecDepth 100000 in
set_option maxHeartbeats 400000 in
theorem back_r {x : Fields} (hx : x.Ok) (wide it : Bool) (w : World) (hw : Laid w) : Calls Tryz.prog 3 #[x.val, .bool wide, .bool it] w fun e w' => e = .returned (.bool true) ∧ Below w.heap.size w w' := by
  have b0 : Below w.heap.size w (w.alloc (.cells x.cells 23)) := (Below.refl _ _).alloc (Nat.le_refl _) _
  have i0 : InsAt (w.alloc (.cells x.cells 23)) w.heap.size x := InsAt.new _ _ _
  have hl0 := laid_below hw b0
  have hE := enc_any hx wide it _ hl0
  have herr := encOf_err x wide it
  have hlaw := back_law (wide := wide) (it := it) hx
  generalize encOf x wide it = p at hE herr hlaw
  obtain ⟨l, err⟩ := p
  have IZ := Lib.hid i0
  clear i0
  have hq := eqB_yes (rfl : x = x)
  obtain ⟨x0, x1, x2, x3, x4, x5, x6, x7, xb⟩ := x
  dsimp only [Fields.val] at hE ⊢
  go_enter Tryz.func3, Tryz.ntmps3
  go_wp2_with fail
  ((with_reducible refine hE.mono ?_); rintro e w1 ⟨A, cap, rfl, hA, hcap, hb1⟩)
  have b1 := b0.trans (hb1.mono (by simp))
  have i1 := Lib.hid (IZ.out.below hb1 (by simp))
  have hl1 := laid_below hw b1
  have z1 : w.heap.size < w1.heap.size := by have := hb1.size; simp at this; omega
  clear hE IZ hb1
  rcases herr with he | he
  · obtain rfl : err = 0 := he
    obtain ⟨hh, hn1, hn2, hback⟩ := hlaw rfl
    have hback := hback [65535]
    dsimp only at hh hn1 hn2 hback hA hcap
    have hne : l ≠ [] := by rintro rfl; simp at hn1
    clear hlaw
    go_wp2_with (first
      | (at_builtin; refine app_ints w1 rfl _ _ rfl w1.heap.size (Nat.le_refl _) [] l (by simp; omega) hne _ rfl (World.ownsRow_nil _ _ _ _) A _ cap _ rfl rfl hA ?_; intro v1 w2 hown1 hb2)
      | (at_builtin; refine app_int w2 rfl _ _ rfl w1.heap.size hb2.size l 65535 (by omega) _ rfl ?_ _ rfl rfl ?_; exact hown1; intro v2 w3 hown2 hb3; obtain ⟨g2, cap2, rfl, hcap2⟩ := own_sl hown2 (by simp)))
    have c3 : Below w1.heap.size w1 w3 := hb2.trans hb3
    have hD := dec_any (l ++ [65535]) (some ⟨g2, 0, none⟩) cap2 it w3 (IAt.of_own hown2) (fun a ha => by
      rcases List.mem_append.1 ha with h | h
      · exact hh a h
      · simp only [List.mem_cons, List.not_mem_nil, or_false] at h
        subst h
        exact has_lit 65535 (by decide)) (by simp [maxLen]; omega) (laid_below hl1 c3)
    rw [hback] at hD
    simp only [List.length_append, List.length_cons, List.length_nil, Nat.zero_add] at hD
    clear hback hown1 hown2 hb2 hb3 hh hA
    ((with_reducible refine hD.mono ?_); rintro e w4 ⟨rfl, hb4⟩)
    have c4 : Below w1.heap.size w1 w4 := c3.trans (hb4.mono c3.size)
    have i4 := InsAt.below (i1.out.below c4 z1) ((Below.refl w4.heap.size w4).alloc (Nat.le_refl _) (.cells (Fields.cells ⟨x0, x1, x2, x3, x4, x5, x6, x7, xb⟩) 23)) (Nat.lt_of_lt_of_le z1 c4.size)
    have d4 := c4.alloc c4.size (.cells (Fields.cells ⟨x0, x1, x2, x3, x4, x5, x6, x7, xb⟩) 23)
    have hAw := awake_ok _ (laid_below hl1 d4)
    obtain ⟨⟨p0, p1, p2, p3, p4, p5, p6, p7, p8⟩, _⟩ := i4
    simp only at p0 p1 p2 p3 p4 p5 p6 p7 p8
    clear hD i1 c3
    dsimp only [Fields.val]
    go_wp2_with fail
    ((with_reducible refine hAw.mono ?_); rintro e w5 ⟨rfl, hb5⟩)
    go_wp2_with fail
    exact bodyPost_ret (results_tmp rfl _ _ _) rfl ⟨rfl, b1.trans ((d4.trans (hb5.mono d4.size)).mono b1.size)⟩
  · obtain rfl : err = 6 := he
    have hAw := awake_ok _ hl1
    clear hlaw i1
    go_wp2_with fail
    ((with_reducible refine hAw.mono ?_); rintro e w5 ⟨rfl, hb5⟩)
    go_wp2_with fail
    exact bodyPost_ret (results_tmp rfl _ _ _) rfl ⟨rfl, b1.trans (hb5.mono b1.size)⟩
#print axioms back_r
end Go.Proofs.YtmaaibffgoanpaaGreatDoor
/- For the seat: a law that answers true and only makes new memory meets its row; arguments: instructions, rows of them, rows of numbers. -/
namespace Go.Proofs.YtmaaibffgoanpaaGreatDoor
open Go.Sx Go.ChangeShapes Go.WideShapes Go.RowKit Go.Joins Go.Deep

section
variable {H : Type} {enc : TypeId × Value → H}

set_option maxRecDepth 100000 in
theorem trodAll_below {P : Program} (hl : laidOutB P = true) {W W' : World} (hb : Below W.heap.size W W') :
    ∀ {ts : List TypeId} {vs : List Value} {ds : List (DataW H)} {ps : List MemPlace}, (∀ t ∈ ts, P.readableRec t = true ∧ t < P.types.size) →
      DataW.TrodAll enc P W 0 (fun _ => true) true ts vs ds ps → (∀ x ∈ ps, x.block < W.heap.size) → DataW.TrodAll enc P W' 0 (fun b => decide (b < W.heap.size)) true ts vs ds ps
  | [], _, _, _, _, h, _ => by
    obtain ⟨rfl, rfl, rfl⟩ := trodAll_nil h
    exact trodAll_mk0
  | t :: ts, _, _, _, hr, h, hlt => by
    obtain ⟨v, vs, d, ds, p, q, rfl, rfl, rfl, h0, r0⟩ := trodAll_cons h
    have ht := hr t (by simp)
    exact trodAll_cons_mk (Below.trod hl ht.1 ht.2 h0 hb (fun x hx => hlt x (by simp [hx]))) (trodAll_below hl hb (fun u hu => hr u (by simp [hu])) r0 (fun x hx => hlt x (by simp [hx])))

set_option maxRecDepth 100000 in
/-- A law's row: it answers true, and makes new memory alone. -/
theorem law_post {P : Program} (hl : laidOutB P = true) {f : Func} {s : ChangeSpec} {tb : TypeId} {W W' : World} {args : Array Value} {ds gs : List (DataW H)} {before : List MemPlace}
    (hs : s.vars = []) (hr : ∀ t ∈ f.params.toList, P.readableRec t = true ∧ t < P.types.size) (hW : DataW.Whole enc P f.params.toList s.vars false W args.toList ds gs before)
    (hb : Below W.heap.size W W') (ht : f.resultTypes = #[tb]) (hbool : P.underlying tb = some .bool) (hfn : s.fn H ds = { results := [.lit (.bool true)], args := ds }) :
    s.post enc P f false true false false W args (.bool true) W' := by
  have hlt := hW.lt
  have hW' := hW
  obtain ⟨p, q, hA, hV, rfl, _, _⟩ := hW
  rw [hs] at hV
  obtain ⟨rfl, rfl⟩ := trodVars_none hV
  refine ⟨ds, [], p ++ [], [], p, [], hW', ?_, ?_, ?_, ?_, fun h => by cases h⟩
  · rw [List.append_nil, hfn, ht]
    exact trodAll_mk1 (shut_bool hbool true)
  · rw [List.append_nil, hfn]
    exact trodAll_below hl hb hr hA (fun x hx => hlt x (by simp [hx]))
  · rw [List.append_nil, hfn, hs]
    rfl
  · exact hb.frame _

end

set_option maxRecDepth 100000 in
theorem laidOut : laidOutB Tryz.prog = true := by kernel_rfl
end Go.Proofs.YtmaaibffgoanpaaGreatDoor
