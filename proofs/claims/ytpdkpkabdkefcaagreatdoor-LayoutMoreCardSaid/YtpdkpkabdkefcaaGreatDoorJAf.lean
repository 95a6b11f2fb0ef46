/- For the seat: texts joined: NmA, NmB. -/
import Derived.Test.YtpdkpkabdkefcaaGreatDoorJAb
import Derived.Test.YtpdkpkabdkefcaaGreatDoorJAd
set_option maxRecDepth 100000
namespace Go.Proofs.YtpdkpkabdkefcaaGreatDoor
open Go.Sx Go.ChangeShapes Go.WideShapes Go.RowKit Go.Joins Go.Deep Go.Rp
theorem reg05_tab (w : World) : Calls Tryz.prog 178 #[] w fun e w' => (∃ g, e = .returned (.slice (some ⟨g, 0, none⟩) 19 19) ∧ g < w'.heap.size ∧ ∀ i (h : i < 19), w'.cell? ⟨g, i, none⟩ = some (.string (tx (regN[i]'h)))) ∧ Below w.heap.size w w' := by
  go_enter Tryz.func178, Tryz.ntmps178
  go_wp2_with (fail)
  refine bodyPost_ret (results_tmp rfl _ _ _) rfl ⟨⟨w.heap.size, rfl, by simp, fun i h => ?_⟩, (Below.refl _ _).alloc (Nat.le_refl _) _⟩
  rw [World.cell?_alloc_mark]
  have e : ∀ l : List Bs, ∀ (h : i < l.length), (l.map fun b => Value.string (tx b)).toArray[i]? = some (.string (tx l[i])) := fun l h => by simp [h]
  exact e regN h
theorem cond04_tab (w : World) : Calls Tryz.prog 163 #[] w fun e w' => (∃ g, e = .returned (.slice (some ⟨g, 0, none⟩) 14 14) ∧ g < w'.heap.size ∧ ∀ i (h : i < 14), w'.cell? ⟨g, i, none⟩ = some (.string (tx (condN[i]'h)))) ∧ Below w.heap.size w w' := by
  go_enter Tryz.func163, Tryz.ntmps163
  go_wp2_with (fail)
  refine bodyPost_ret (results_tmp rfl _ _ _) rfl ⟨⟨w.heap.size, rfl, by simp, fun i h => ?_⟩, (Below.refl _ _).alloc (Nat.le_refl _) _⟩
  rw [World.cell?_alloc_mark]
  have e : ∀ l : List Bs, ∀ (h : i < l.length), (l.map fun b => Value.string (tx b)).toArray[i]? = some (.string (tx l[i])) := fun l h => by simp [h]
  exact e condN h
theorem op06_tab (w : World) : Calls Tryz.prog 162 #[] w fun e w' => (∃ g, e = .returned (.slice (some ⟨g, 0, none⟩) 46 46) ∧ g < w'.heap.size ∧ ∀ i (h : i < 46), w'.cell? ⟨g, i, none⟩ = some (.string (tx (opN[i]'h)))) ∧ Below w.heap.size w w' := by
  go_enter Tryz.func162, Tryz.ntmps162
  go_wp2_with (fail)
  refine bodyPost_ret (results_tmp rfl _ _ _) rfl ⟨⟨w.heap.size, rfl, by simp, fun i h => ?_⟩, (Below.refl _ _).alloc (Nat.le_refl _) _⟩
  rw [World.cell?_alloc_mark]
  have e : ∀ l : List Bs, ∀ (h : i < l.length), (l.map fun b => Value.string (tx b)).toArray[i]? = some (.string (tx l[i])) := fun l h => by simp [h]
  exact e opN h
theorem reg05_name (r : Int) (w : World) : Calls Tryz.prog 164 #[.int .i64 r] w fun e w' => e = .returned (.string (tx (regName r))) ∧ Below w.heap.size w w' := by
  have ht := reg05_tab
  have hR : regName r = if r < 0 ∨ 15 < r then [] else regN.getD r.toNat [] := rfl
  generalize regName r = R at hR
  go_enter Tryz.func164, Tryz.ntmps164
  cases u : decide (r < 0)
  rotate_left
  · have := of_decide_eq_true u
    obtain rfl : R = [] := by rw [hR, if_pos (.inl this)]
    clear hR
    go_wp2_with (fail)
    exact bodyPost_ret (results_tmp rfl _ _ _) rfl ⟨rfl, Below.refl _ _⟩
  cases u2 : decide (15 < r)
  rotate_left
  · have := of_decide_eq_true u2
    obtain rfl : R = [] := by rw [hR, if_pos (.inr this)]
    clear hR
    go_wp2_with (fail)
    exact bodyPost_ret (results_tmp rfl _ _ _) rfl ⟨rfl, Below.refl _ _⟩
  have h1 := of_decide_eq_false u
  have h2 := of_decide_eq_false u2
  obtain ⟨k, rfl⟩ : ∃ k : Nat, r = k := ⟨r.toNat, by omega⟩
  have hk : k < regN.length := by show k < 19; omega
  have hRk : R = regN[k] := by
    rw [hR, if_neg (by omega)]
    simp [hk]
  clear hR
  go_wp2_with (fail)
  ((with_reducible refine (ht _).mono ?_); rintro e w1 ⟨⟨g, rfl, hg, hc⟩, hb⟩)
  have hc1 := hc k hk
  rw [← hRk] at hc1
  clear hc ht hRk
  go_wp2_with (fail)
  exact bodyPost_ret (results_tmp rfl _ _ _) rfl ⟨rfl, hb⟩
theorem cond04_name (r : Int) (w : World) : Calls Tryz.prog 134 #[.int .i64 r] w fun e w' => e = .returned (.string (tx (condName r))) ∧ Below w.heap.size w w' := by
  have ht := cond04_tab
  have hR : condName r = if r < 0 ∨ 13 < r then [] else condN.getD r.toNat [] := rfl
  generalize condName r = R at hR
  go_enter Tryz.func134, Tryz.ntmps134
  cases u : decide (r < 0)
  rotate_left
  · have := of_decide_eq_true u
    obtain rfl : R = [] := by rw [hR, if_pos (.inl this)]
    clear hR
    go_wp2_with (fail)
    exact bodyPost_ret (results_tmp rfl _ _ _) rfl ⟨rfl, Below.refl _ _⟩
  cases u2 : decide (13 < r)
  rotate_left
  · have := of_decide_eq_true u2
    obtain rfl : R = [] := by rw [hR, if_pos (.inr this)]
    clear hR
    go_wp2_with (fail)
    exact bodyPost_ret (results_tmp rfl _ _ _) rfl ⟨rfl, Below.refl _ _⟩
  have h1 := of_decide_eq_false u
  have h2 := of_decide_eq_false u2
  obtain ⟨k, rfl⟩ : ∃ k : Nat, r = k := ⟨r.toNat, by omega⟩
  have hk : k < condN.length := by show k < 14; omega
  have hRk : R = condN[k] := by
    rw [hR, if_neg (by omega)]
    simp [hk]
  clear hR
  go_wp2_with (fail)
  ((with_reducible refine (ht _).mono ?_); rintro e w1 ⟨⟨g, rfl, hg, hc⟩, hb⟩)
  have hc1 := hc k hk
  rw [← hRk] at hc1
  clear hc ht hRk
  go_wp2_with (fail)
  exact bodyPost_ret (results_tmp rfl _ _ _) rfl ⟨rfl, hb⟩
theorem op06_name (r : Int) (w : World) : Calls Tryz.prog 133 #[.int .i64 r] w fun e w' => e = .returned (.string (tx (opName r))) ∧ Below w.heap.size w w' := by
  have ht := op06_tab
  have hR : opName r = if r < 1 ∨ 45 < r then [] else opN.getD r.toNat [] := rfl
  generalize opName r = R at hR
  go_enter Tryz.func133, Tryz.ntmps133
  cases u : decide (r < 1)
  rotate_left
  · have := of_decide_eq_true u
    obtain rfl : R = [] := by rw [hR, if_pos (.inl this)]
    clear hR
    go_wp2_with (fail)
    exact bodyPost_ret (results_tmp rfl _ _ _) rfl ⟨rfl, Below.refl _ _⟩
  cases u2 : decide (45 < r)
  rotate_left
  · have := of_decide_eq_true u2
    obtain rfl : R = [] := by rw [hR, if_pos (.inr this)]
    clear hR
    go_wp2_with (fail)
    exact bodyPost_ret (results_tmp rfl _ _ _) rfl ⟨rfl, Below.refl _ _⟩
  have h1 := of_decide_eq_false u
  have h2 := of_decide_eq_false u2
  obtain ⟨k, rfl⟩ : ∃ k : Nat, r = k := ⟨r.toNat, by omega⟩
  have hk : k < opN.length := by show k < 46; omega
  have hRk : R = opN[k] := by
    rw [hR, if_neg (by omega)]
    simp [hk]
  clear hR
  go_wp2_with (fail)
  ((with_reducible refine (ht _).mono ?_); rintro e w1 ⟨⟨g, rfl, hg, hc⟩, hb⟩)
  have hc1 := hc k hk
  rw [← hRk] at hc1
  clear hc ht hRk
  go_wp2_with (fail)
  exact bodyPost_ret (results_tmp rfl _ _ _) rfl ⟨rfl, hb⟩
end Go.Proofs.YtpdkpkabdkefcaaGreatDoor
namespace Go.Proofs.YtpdkpkabdkefcaaGreatDoor
open Go.Sx Go.ChangeShapes Go.WideShapes Go.RowKit Go.Joins Go.Deep Go.Rp
theorem sets06 (o : Int) (w : World) : Calls Tryz.prog 145 #[.int .i64 o] w fun e w' => e = .returned (.bool (opSets o)) ∧ w' = w := by
  unfold opSets
  go_enter Tryz.func145, Tryz.ntmps145
  cases h1 : decide (1 ≤ o) <;> cases h2 : decide (o ≤ 11) <;> cases h3 : decide (16 ≤ o) <;> cases h4 : decide (o ≤ 19)
  all_goals go_wp2_with fail
  all_goals exact bodyPost_ret (results_tmp rfl _ _ _) rfl ⟨rfl, rfl⟩
theorem tx_beq (a b : Bs) : ((tx a).toList == (tx b).toList) = (a == b) := by
  rw [ByteArray.toList_eq, ByteArray.toList_eq]
theorem meas_lt (n i : Nat) (h : i < n) (z : Int) (hz : z = i + 1) : n - (intOf (.int .i64 z)).toNat < n - (intOf (.int .i64 i)).toNat := by
  subst hz
  simp only [intOf]
  omega
set_option maxHeartbeats 4000000 in
theorem find05 (s : Bs) (w : World) : Calls Tryz.prog 170 #[.string (tx s)] w fun e w' => e = .returned (.int .i64 (regFind s)) ∧ Below w.heap.size w w' := by
  have ht := reg05_tab w
  have hR : regFind s = match findF regN 0 s with | some i => if 15 < i then (i : Int) - 3 else i | none => -1 := rfl
  generalize regFind s = R at hR
  have HR := Lib.hid (show R = (match findF (regN.drop 0) 0 s with | some i => if 15 < i then (i : Int) - 3 else i | none => -1) from hR)
  clear hR
  go_enter Tryz.func170, Tryz.ntmps170
  go_wp2_with (fail)
  ((with_reducible refine ht.mono ?_); rintro e w1 ⟨⟨g, rfl, hg, hc⟩, hb⟩)
  clear ht
  go_wp2_with (fail)
  go_loopw [4] (fun t wr => ∃ i : Nat, t = .int .i64 i ∧ i ≤ 19 ∧ Hid (R = (match findF (regN.drop i) i s with | some i => if 15 < i then (i : Int) - 3 else i | none => -1)) ∧ wr = w1) (fun t _ => 19 - (intOf t).toNat)
  case atStart => exact ⟨0, rfl, by omega, HR, rfl⟩
  case round =>
    obtain ⟨i, rfl, hi, he, rfl⟩ := hrel
    clear HR
    by_cases hlt : i < 19
    · have hlS : i < regN.length := hlt
      have u0 : decide ((i : Int) < 19) = true := decide_eq_true (by omega)
      have hc1 := hc i hlt
      have he1 := he.out
      rw [findF_at hlS] at he1
      cases hq : (regN[i] == s)
      · rw [hq] at he1
        have HE := Lib.hid he1
        have hc2 : (regN[i]'hlS == s) = false := hq
        clear he1 he hc
        generalize regN[i] = nm at hc1 hc2
        go_wp2_with (fail)
        go_roundw
        case rel => exact ⟨i + 1, by go_num, by omega, HE, trivial⟩
        case measure => exact meas_lt 19 i hlt _ rfl
      · rw [hq] at he1
        have hc2 : (regN[i]'hlS == s) = true := hq
        clear he hc
        generalize regN[i] = nm at hc1 hc2
        cases u3 : decide ((15 : Int) < (i : Int))
        · have := of_decide_eq_false u3
          obtain rfl : R = i := by rw [he1]; simp; omega
          clear he1
          go_wp2_with (fail)
          exact bodyPost_ret (results_tmp rfl _ _ _) rfl ⟨rfl, hb⟩
        · have := of_decide_eq_true u3
          obtain rfl : R = (i : Int) - 3 := by rw [he1]; simp; omega
          clear he1
          go_wp2_with (fail)
          exact bodyPost_ret (results_tmp rfl _ _ _) rfl ⟨by go_num, hb⟩
    · obtain rfl : i = 19 := by omega
      have hF : R = -1 := he.out
      subst hF
      clear he hc
      go_wp2_with (fail)
      exact bodyPost_ret (results_tmp rfl _ _ _) rfl ⟨rfl, hb⟩
set_option maxHeartbeats 4000000 in
theorem cond04_find (s : Bs) (w : World) : Calls Tryz.prog 142 #[.string (tx s)] w fun e w' => e = .returned (.int .i64 (condFind s)) ∧ Below w.heap.size w w' := by
  have ht := cond04_tab
  have hR : condFind s = if s == [104, 115] then 2 else if s == [108, 111] then 3 else if s.isEmpty then 14 else if s == [97, 108] then 14 else match findF (condN.drop 0) 0 s with | some i => (i : Int) | none => -1 := by
    have : (s == []) = s.isEmpty := by cases s <;> rfl
    rw [← this]
    rfl
  generalize condFind s = R at hR
  have HR := Lib.hid hR
  clear hR
  go_enter Tryz.func142, Tryz.ntmps142
  cases e1 : (s == [104, 115])
  rotate_left
  · have hF := HR.out
    rw [e1] at hF
    subst hF
    clear HR ht
    go_wp2_with (fail)
    exact bodyPost_ret (results_tmp rfl _ _ _) rfl ⟨rfl, Below.refl _ _⟩
  cases e2 : (s == [108, 111])
  rotate_left
  · have hF := HR.out
    rw [e1, e2] at hF
    subst hF
    clear HR ht
    go_wp2_with (fail)
    exact bodyPost_ret (results_tmp rfl _ _ _) rfl ⟨rfl, Below.refl _ _⟩
  cases e3 : s.isEmpty
  rotate_left
  · have hF := HR.out
    rw [e1, e2, e3] at hF
    subst hF
    clear HR ht
    go_wp2_with (fail)
    exact bodyPost_ret (results_tmp rfl _ _ _) rfl ⟨rfl, Below.refl _ _⟩
  cases e4 : (s == [97, 108])
  rotate_left
  · have hF := HR.out
    rw [e1, e2, e3, e4] at hF
    subst hF
    clear HR ht
    go_wp2_with (fail)
    exact bodyPost_ret (results_tmp rfl _ _ _) rfl ⟨rfl, Below.refl _ _⟩
  have hF := HR.out
  rw [e1, e2, e3, e4] at hF
  clear HR
  have HR := Lib.hid (show R = (match findF (condN.drop 0) 0 s with | some i => (i : Int) | none => -1) from hF)
  clear hF
  go_wp2_with (fail)
  go_loopw [3] (fun t wr => ∃ i : Nat, t = .int .i64 i ∧ i ≤ 14 ∧ Hid (R = (match findF (condN.drop i) i s with | some i => (i : Int) | none => -1)) ∧ Below w.heap.size w wr) (fun t _ => 14 - (intOf t).toNat)
  case atStart => exact ⟨0, rfl, by omega, HR, Below.refl _ _⟩
  case round =>
    obtain ⟨i, rfl, hi, he, hb⟩ := hrel
    clear HR
    by_cases hlt : i < 14
    · have hlS : i < condN.length := hlt
      have u0 : decide ((i : Int) ≤ 13) = true := decide_eq_true (by omega)
      have he1 := he.out
      rw [findF_at hlS] at he1
      cases hq : (condN[i] == s)
      · rw [hq] at he1
        have HE := Lib.hid he1
        have hc2 : (condN[i]'hlS == s) = false := hq
        clear he1 he
        go_wp2_with (fail)
        ((with_reducible refine (ht _).mono ?_); rintro e w1 ⟨⟨g, rfl, hg, hc⟩, hb1⟩)
        have hc1 := hc i hlt
        clear hc
        generalize condN[i] = nm at hc1 hc2
        go_wp2_with (fail)
        go_roundw
        case rel => exact ⟨i + 1, by go_num, by omega, HE, hb.trans (hb1.mono hb.size)⟩
        case measure => exact meas_lt 14 i hlt _ rfl
      · rw [hq] at he1
        have hc2 : (condN[i]'hlS == s) = true := hq
        have hRi : R = (i : Int) := he1
        subst hRi
        clear he he1
        go_wp2_with (fail)
        ((with_reducible refine (ht _).mono ?_); rintro e w1 ⟨⟨g, rfl, hg, hc⟩, hb1⟩)
        have hc1 := hc i hlt
        clear hc
        generalize condN[i] = nm at hc1 hc2
        go_wp2_with (fail)
        exact bodyPost_ret (results_tmp rfl _ _ _) rfl ⟨rfl, hb.trans (hb1.mono hb.size)⟩
    · obtain rfl : i = 14 := by omega
      have hF : R = -1 := he.out
      subst hF
      clear he
      go_wp2_with (fail)
      exact bodyPost_ret (results_tmp rfl _ _ _) rfl ⟨rfl, hb⟩
end Go.Proofs.YtpdkpkabdkefcaaGreatDoor
