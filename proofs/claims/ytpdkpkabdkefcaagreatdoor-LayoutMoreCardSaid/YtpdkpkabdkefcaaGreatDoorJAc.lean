/- For the seat: texts joined: LxB, LxC. -/
import Derived.Test.YtpdkpkabdkefcaaGreatDoorJAa
set_option maxRecDepth 100000
namespace Go.Proofs.YtpdkpkabdkefcaaGreatDoor
open Go.Sx Go.ChangeShapes Go.WideShapes Go.RowKit Go.Joins Go.Deep Go.Rp
theorem byte_eq (b k : UInt8) : ((b.toNat : Int) == (k.toNat : Int)) = (b == k) := by
  rw [Bool.eq_iff_iff, beq_iff_eq, beq_iff_eq]
  exact ⟨fun h => UInt8.toNat_inj.1 (by omega), fun h => by rw [h]⟩
theorem name16 (l : Bs) (hl : l.length ≤ 1000000000000) (w : World) : Calls Tryz.prog 76 #[.string (tx l)] w fun e w' => e = .returned (.bool (isNm l)) ∧ w' = w := by
  have hr := run16 l hl
  have hI : isNm l = (!l.isEmpty && decide (l.length ≤ 32) && (runL l == l.length) && !(l.any (· == 46))) := rfl
  generalize isNm l = R at hI
  generalize runL l = n at hr hI
  go_enter Tryz.func76, Tryz.ntmps76
  cases e0 : l.isEmpty
  rotate_left
  · go_wp2_with fail
    exact bodyPost_ret (results_tmp rfl _ _ _) rfl ⟨by simp [hI, e0], rfl⟩
  cases u1 : decide (32 < (l.length : Int))
  rotate_left
  · go_wp2_with fail
    exact bodyPost_ret (results_tmp rfl _ _ _) rfl ⟨by simp at u1; simp [hI]; omega, rfl⟩
  go_wp2_with fail
  ((with_reducible refine (hr _).mono ?_); rintro e w1 ⟨rfl, rfl⟩)
  cases e1 : ((n : Int) != (l.length : Int))
  rotate_left
  · go_wp2_with fail
    exact bodyPost_ret (results_tmp rfl _ _ _) rfl ⟨by simp at e1; simp [hI]; omega, rfl⟩
  have hI2 : R = !(l.any (· == 46)) := by
    simp at u1 e1
    have : l.isEmpty = false := e0
    have e2 : (n == l.length) = true := by rw [beq_iff_eq]; exact Int.ofNat.inj e1
    have e3 : decide (l.length ≤ 32) = true := decide_eq_true (Int.ofNat_le.1 u1)
    rw [hI, this, e2, e3]
    rfl
  clear hI
  go_wp2_with fail
  go_loopw [3] (fun t wr => ∃ n : Nat, t = .int .i64 n ∧ n ≤ l.length ∧ R = !((l.drop n).any (· == 46)) ∧ wr = w1) (fun t _ => l.length - (intOf t).toNat)
  case atStart => exact ⟨0, rfl, by omega, hI2, rfl⟩
  case round =>
    obtain ⟨n, rfl, hn, he, rfl⟩ := hrel
    clear hI2
    by_cases hlt : n < l.length
    · have u0 : decide ((n : Int) < (l.length : Int)) = true := decide_eq_true (by omega)
      rw [List.drop_eq_getElem_cons hlt, List.any_cons] at he
      have hb := byte_eq l[n] 46
      cases hq : (l[n] == 46)
      · rw [hq] at hb he
        have hb : ((((tx l)[n]'hlt).toNat : Int) == 46) = false := hb
        go_wp2_with fail
        exact ⟨⟨n + 1, by go_num, by omega, he, trivial⟩, by simp [intOf]; omega⟩
      · rw [hq] at hb he
        have hb : ((((tx l)[n]'hlt).toNat : Int) == 46) = true := hb
        go_wp2_with fail
        exact bodyPost_ret (results_tmp rfl _ _ _) rfl ⟨by rw [he]; rfl, rfl⟩
    · go_wp2_with fail
      refine bodyPost_ret (results_tmp rfl _ _ _) rfl ⟨?_, rfl⟩
      rw [he, List.drop_eq_nil_of_le (by omega)]
      rfl
theorem numGo_yes (base : Int) {l : Bs} {n : Nat} (v : Int) (h : n < l.length) (hv : 0 ≤ valR l[n].toNat base) :
    numGo base (l.drop n) v = ((numGo base (l.drop (n + 1)) (min (v * base + valR l[n].toNat base) 4294967296)).1 + 1, (numGo base (l.drop (n + 1)) (min (v * base + valR l[n].toNat base) 4294967296)).2) := by
  rw [List.drop_eq_getElem_cons h, numGo, if_pos hv]
theorem numGo_no (base : Int) {l : Bs} {n : Nat} (v : Int) (h : n < l.length) (hv : ¬ 0 ≤ valR l[n].toNat base) : numGo base (l.drop n) v = (0, v) := by
  rw [List.drop_eq_getElem_cons h, numGo, if_neg hv]
theorem numGo_end (base : Int) {l : Bs} {n : Nat} (v : Int) (h : l.length ≤ n) : numGo base (l.drop n) v = (0, v) := by
  rw [List.drop_eq_nil_of_le h]
  rfl
theorem byte_lt (b : UInt8) : (0 : Int) ≤ (b.toNat : Int) ∧ (b.toNat : Int) < 256 := by
  have := b.toNat_lt
  omega
theorem ext_tx (l : Bs) (a b : Nat) : (tx l).extract a b = tx ((l.drop a).take (b - a)) := ByteArray.extract_mk l a b
theorem tx_toList (l : Bs) : (tx l).toList = l := by rw [ByteArray.toList_eq]
theorem number16 (l : Bs) (hl : l.length ≤ 1000000000000) (w : World) : Calls Tryz.prog 103 #[.string (tx l)] w fun e w' => e = .returned (.tuple #[.int .i64 (numL l).1, .int .i64 (numL l).2]) ∧ w' = w := by
  obtain ⟨G, hG, hN⟩ : ∃ G : Nat × Int, G = (fromL l + (numGo (baseL l) (l.drop (fromL l)) 0).1, (numGo (baseL l) (l.drop (fromL l)) 0).2) ∧ numL l = if G.1 = fromL l ∨ 4294967296 ≤ G.2 ∨ (l.drop G.1).head?.any letB = true then (0, 0) else G := by
    refine ⟨_, rfl, ?_⟩
    have : (fromL l + (numGo (baseL l) (l.drop (fromL l)) 0).1 = fromL l) = ((numGo (baseL l) (l.drop (fromL l)) 0).1 = 0) := by simp
    simp only [this]
    rfl
  generalize numL l = R at hN
  have hv := value16
  have hg := letter16
  have hx : ((tx l).extract 0 2).toList = l.take 2 := by rw [ext_tx, tx_toList]; rfl
  go_enter Tryz.func103, Tryz.ntmps103
  cases u : decide (1 < (l.length : Int))
  · have hh : hexL l = false := by
      simp at u
      unfold hexL
      match l, u with
      | [], _ => rfl
      | [a], _ => simp
    have hB : baseL l = 10 ∧ fromL l = 0 := by simp [baseL, fromL, hh]
    rw [hB.1, hB.2] at hG
    rw [hB.2] at hN
    have hF : 0 ≤ l.length := by omega
    go_wp2_with fail
    go_loopw [6, 7] (fun t v wr => ∃ (n : Nat) (x : Int), t = .int .i64 n ∧ v = .int .i64 x ∧ 0 ≤ n ∧ n ≤ l.length ∧ 0 ≤ x ∧ x ≤ 4294967296 ∧ G = (n + (numGo 10 (l.drop n) x).1, (numGo 10 (l.drop n) x).2) ∧ wr = w) (fun t _ _ => l.length - (intOf t).toNat)
    case atStart => exact ⟨0, 0, rfl, rfl, Nat.le_refl _, hF, by decide, by decide, hG, rfl⟩
    case round =>
      obtain ⟨n, x, rfl, rfl, hnF, hn, hx0, hx1, he, rfl⟩ := hrel
      clear hG
      by_cases hlt : n < l.length
      · have u0 : decide ((n : Int) < (l.length : Int)) = true := decide_eq_true (by omega)
        go_wp2_with fail
        ((with_reducible refine (hv _ _ (byte_lt _) _).mono ?_); rintro e w1 ⟨rfl, rfl⟩)
        generalize hq : valR _ _ = q
        have hq : valR l[n].toNat 10 = q := hq
        rcases Int.lt_or_le q 0 with hq0 | hq0
        · rw [numGo_no 10 x hlt (by omega)] at he
          subst he
          have e0 : decide (0 ≤ q) = false := decide_eq_false (by omega)
          cases e1 : ((n : Int) == 0)
          · have e1' : n ≠ 0 := by simp at e1; omega
            cases e2 : decide (4294967296 ≤ x)
            · have e2' := of_decide_eq_false e2
              go_wp2_with fail
              ((with_reducible refine (hg _ _).mono ?_); rintro e w1 ⟨rfl, rfl⟩)
              generalize hr : letZ _ = r
              have hr : letB l[n] = r := hr
              have hH : (l.drop n).head?.any letB = r := by rw [List.drop_eq_getElem_cons hlt]; exact hr
              cases r
              · obtain rfl : R = (n, x) := by
                  rw [hN, if_neg]
                  · rfl
                  · rintro (h | h | h)
                    · exact e1' h
                    · have h2 : 4294967296 ≤ x := h
                      omega
                    · have h3 : (l.drop n).head?.any letB = true := h
                      rw [hH] at h3; cases h3
                go_wp2_with fail
                exact bodyPost_ret (results_tmp2 rfl _ _ _) rfl ⟨rfl, rfl⟩
              · obtain rfl : R = (0, 0) := by rw [hN, if_pos (.inr (.inr hH))]
                go_wp2_with fail
                exact bodyPost_ret (results_tmp2 rfl _ _ _) rfl ⟨rfl, rfl⟩
            · obtain rfl : R = (0, 0) := by rw [hN, if_pos (.inr (.inl (of_decide_eq_true e2)))]
              go_wp2_with fail
              exact bodyPost_ret (results_tmp2 rfl _ _ _) rfl ⟨rfl, rfl⟩
          · obtain rfl : R = (0, 0) := by
              simp at e1
              rw [hN, if_pos (.inl (by show n = 0; omega))]
            go_wp2_with fail
            exact bodyPost_ret (results_tmp2 rfl _ _ _) rfl ⟨rfl, rfl⟩
        · rw [numGo_yes 10 x hlt (by omega), hq] at he
          have e0 : decide (0 ≤ q) = true := decide_eq_true (by omega)
          have hq1 : q < 16 := hq ▸ valR_bound _ _
          go_wp2_with fail
          ((with_reducible refine (hv _ _ (byte_lt _) _).mono ?_); rintro e w1 ⟨rfl, rfl⟩)
          generalize hq2 : valR _ _ = q2
          obtain rfl : q = q2 := hq.symm.trans hq2
          go_wp2_with fail
          go_roundw
          case rel => exact ⟨n + 1, min (x * 10 + q) 4294967296, by go_num, by go_num, by omega, by omega, by omega, by omega, by rw [he]; simp; omega, trivial⟩
          case measure => simp [intOf]; omega
      · obtain rfl : n = l.length := by omega
        have u0 : decide ((l.length : Int) < (l.length : Int)) = false := decide_eq_false (by omega)
        rw [numGo_end 10 x (by omega)] at he
        subst he
        have hH : (l.drop l.length).head?.any letB = false := by simp
        cases e1 : ((l.length : Int) == 0)
        · have e1' : l.length ≠ 0 := fun h => by rw [h] at e1; cases e1
          cases e2 : decide (4294967296 ≤ x)
          · have e2' := of_decide_eq_false e2
            obtain rfl : R = (l.length, x) := by
              rw [hN, if_neg]
              · rfl
              · rintro (h | h | h)
                · exact e1' h
                · have h2 : 4294967296 ≤ x := h
                  omega
                · have h3 : (l.drop l.length).head?.any letB = true := h
                  rw [hH] at h3; cases h3
            go_wp2_with fail
            exact bodyPost_ret (results_tmp2 rfl _ _ _) rfl ⟨rfl, rfl⟩
          · obtain rfl : R = (0, 0) := by rw [hN, if_pos (.inr (.inl (of_decide_eq_true e2)))]
            go_wp2_with fail
            exact bodyPost_ret (results_tmp2 rfl _ _ _) rfl ⟨rfl, rfl⟩
        · obtain rfl : R = (0, 0) := by
            have e3 := eq_of_beq e1
            rw [hN, if_pos (.inl (by show l.length = 0; omega))]
          go_wp2_with fail
          exact bodyPost_ret (results_tmp2 rfl _ _ _) rfl ⟨rfl, rfl⟩
  · cases v : (((tx l).extract 0 2).toList == [48, 120])
    · have hh : hexL l = false := by rw [hx] at v; exact v
      have hB : baseL l = 10 ∧ fromL l = 0 := by simp [baseL, fromL, hh]
      rw [hB.1, hB.2] at hG
      rw [hB.2] at hN
      have hF : 0 ≤ l.length := by omega
      have u2 : (2 : Int) ≤ (l.length : Int) := by simp at u; omega
      clear hh hx hB
      go_wp2_with fail
      go_loopw [6, 7] (fun t v wr => ∃ (n : Nat) (x : Int), t = .int .i64 n ∧ v = .int .i64 x ∧ 0 ≤ n ∧ n ≤ l.length ∧ 0 ≤ x ∧ x ≤ 4294967296 ∧ G = (n + (numGo 10 (l.drop n) x).1, (numGo 10 (l.drop n) x).2) ∧ wr = w) (fun t _ _ => l.length - (intOf t).toNat)
      case atStart => exact ⟨0, 0, rfl, rfl, Nat.le_refl _, hF, by decide, by decide, hG, rfl⟩
      case round =>
        obtain ⟨n, x, rfl, rfl, hnF, hn, hx0, hx1, he, rfl⟩ := hrel
        clear hG
        by_cases hlt : n < l.length
        · have u0 : decide ((n : Int) < (l.length : Int)) = true := decide_eq_true (by omega)
          go_wp2_with fail
          ((with_reducible refine (hv _ _ (byte_lt _) _).mono ?_); rintro e w1 ⟨rfl, rfl⟩)
          generalize hq : valR _ _ = q
          have hq : valR l[n].toNat 10 = q := hq
          rcases Int.lt_or_le q 0 with hq0 | hq0
          · rw [numGo_no 10 x hlt (by omega)] at he
            subst he
            have e0 : decide (0 ≤ q) = false := decide_eq_false (by omega)
            cases e1 : ((n : Int) == 0)
            · have e1' : n ≠ 0 := by simp at e1; omega
              cases e2 : decide (4294967296 ≤ x)
              · have e2' := of_decide_eq_false e2
                go_wp2_with fail
                ((with_reducible refine (hg _ _).mono ?_); rintro e w1 ⟨rfl, rfl⟩)
                generalize hr : letZ _ = r
                have hr : letB l[n] = r := hr
                have hH : (l.drop n).head?.any letB = r := by rw [List.drop_eq_getElem_cons hlt]; exact hr
                cases r
                · obtain rfl : R = (n, x) := by
                    rw [hN, if_neg]
                    · rfl
                    · rintro (h | h | h)
                      · exact e1' h
                      · have h2 : 4294967296 ≤ x := h
                        omega
                      · have h3 : (l.drop n).head?.any letB = true := h
                        rw [hH] at h3; cases h3
                  go_wp2_with fail
                  exact bodyPost_ret (results_tmp2 rfl _ _ _) rfl ⟨rfl, rfl⟩
                · obtain rfl : R = (0, 0) := by rw [hN, if_pos (.inr (.inr hH))]
                  go_wp2_with fail
                  exact bodyPost_ret (results_tmp2 rfl _ _ _) rfl ⟨rfl, rfl⟩
              · obtain rfl : R = (0, 0) := by rw [hN, if_pos (.inr (.inl (of_decide_eq_true e2)))]
                go_wp2_with fail
                exact bodyPost_ret (results_tmp2 rfl _ _ _) rfl ⟨rfl, rfl⟩
            · obtain rfl : R = (0, 0) := by
                simp at e1
                rw [hN, if_pos (.inl (by show n = 0; omega))]
              go_wp2_with fail
              exact bodyPost_ret (results_tmp2 rfl _ _ _) rfl ⟨rfl, rfl⟩
          · rw [numGo_yes 10 x hlt (by omega), hq] at he
            have e0 : decide (0 ≤ q) = true := decide_eq_true (by omega)
            have hq1 : q < 16 := hq ▸ valR_bound _ _
            go_wp2_with fail
            ((with_reducible refine (hv _ _ (byte_lt _) _).mono ?_); rintro e w1 ⟨rfl, rfl⟩)
            generalize hq2 : valR _ _ = q2
            obtain rfl : q = q2 := hq.symm.trans hq2
            go_wp2_with fail
            go_roundw
            case rel => exact ⟨n + 1, min (x * 10 + q) 4294967296, by go_num, by go_num, by omega, by omega, by omega, by omega, by rw [he]; simp; omega, trivial⟩
            case measure => simp [intOf]; omega
        · obtain rfl : n = l.length := by omega
          have u0 : decide ((l.length : Int) < (l.length : Int)) = false := decide_eq_false (by omega)
          rw [numGo_end 10 x (by omega)] at he
          subst he
          have hH : (l.drop l.length).head?.any letB = false := by simp
          cases e1 : ((l.length : Int) == 0)
          · have e1' : l.length ≠ 0 := fun h => by rw [h] at e1; cases e1
            cases e2 : decide (4294967296 ≤ x)
            · have e2' := of_decide_eq_false e2
              obtain rfl : R = (l.length, x) := by
                rw [hN, if_neg]
                · rfl
                · rintro (h | h | h)
                  · exact e1' h
                  · have h2 : 4294967296 ≤ x := h
                    omega
                  · have h3 : (l.drop l.length).head?.any letB = true := h
                    rw [hH] at h3; cases h3
              go_wp2_with fail
              exact bodyPost_ret (results_tmp2 rfl _ _ _) rfl ⟨rfl, rfl⟩
            · obtain rfl : R = (0, 0) := by rw [hN, if_pos (.inr (.inl (of_decide_eq_true e2)))]
              go_wp2_with fail
              exact bodyPost_ret (results_tmp2 rfl _ _ _) rfl ⟨rfl, rfl⟩
          · obtain rfl : R = (0, 0) := by
              have e3 := eq_of_beq e1
              rw [hN, if_pos (.inl (by show l.length = 0; omega))]
            go_wp2_with fail
            exact bodyPost_ret (results_tmp2 rfl _ _ _) rfl ⟨rfl, rfl⟩
    · have hh : hexL l = true := by rw [hx] at v; exact v
      have hB : baseL l = 16 ∧ fromL l = 2 := by simp [baseL, fromL, hh]
      rw [hB.1, hB.2] at hG
      rw [hB.2] at hN
      have hF : 2 ≤ l.length := by simp at u; omega
      have u2 : (2 : Int) ≤ (l.length : Int) := by simp at u; omega
      clear hh hx hB
      go_wp2_with fail
      go_loopw [6, 7] (fun t v wr => ∃ (n : Nat) (x : Int), t = .int .i64 n ∧ v = .int .i64 x ∧ 2 ≤ n ∧ n ≤ l.length ∧ 0 ≤ x ∧ x ≤ 4294967296 ∧ G = (n + (numGo 16 (l.drop n) x).1, (numGo 16 (l.drop n) x).2) ∧ wr = w) (fun t _ _ => l.length - (intOf t).toNat)
      case atStart => exact ⟨2, 0, rfl, rfl, Nat.le_refl _, hF, by decide, by decide, hG, rfl⟩
      case round =>
        obtain ⟨n, x, rfl, rfl, hnF, hn, hx0, hx1, he, rfl⟩ := hrel
        clear hG
        by_cases hlt : n < l.length
        · have u0 : decide ((n : Int) < (l.length : Int)) = true := decide_eq_true (by omega)
          go_wp2_with fail
          ((with_reducible refine (hv _ _ (byte_lt _) _).mono ?_); rintro e w1 ⟨rfl, rfl⟩)
          generalize hq : valR _ _ = q
          have hq : valR l[n].toNat 16 = q := hq
          rcases Int.lt_or_le q 0 with hq0 | hq0
          · rw [numGo_no 16 x hlt (by omega)] at he
            subst he
            have e0 : decide (0 ≤ q) = false := decide_eq_false (by omega)
            cases e1 : ((n : Int) == 2)
            · have e1' : n ≠ 2 := by simp at e1; omega
              cases e2 : decide (4294967296 ≤ x)
              · have e2' := of_decide_eq_false e2
                go_wp2_with fail
                ((with_reducible refine (hg _ _).mono ?_); rintro e w1 ⟨rfl, rfl⟩)
                generalize hr : letZ _ = r
                have hr : letB l[n] = r := hr
                have hH : (l.drop n).head?.any letB = r := by rw [List.drop_eq_getElem_cons hlt]; exact hr
                cases r
                · obtain rfl : R = (n, x) := by
                    rw [hN, if_neg]
                    · rfl
                    · rintro (h | h | h)
                      · exact e1' h
                      · have h2 : 4294967296 ≤ x := h
                        omega
                      · have h3 : (l.drop n).head?.any letB = true := h
                        rw [hH] at h3; cases h3
                  go_wp2_with fail
                  exact bodyPost_ret (results_tmp2 rfl _ _ _) rfl ⟨rfl, rfl⟩
                · obtain rfl : R = (0, 0) := by rw [hN, if_pos (.inr (.inr hH))]
                  go_wp2_with fail
                  exact bodyPost_ret (results_tmp2 rfl _ _ _) rfl ⟨rfl, rfl⟩
              · obtain rfl : R = (0, 0) := by rw [hN, if_pos (.inr (.inl (of_decide_eq_true e2)))]
                go_wp2_with fail
                exact bodyPost_ret (results_tmp2 rfl _ _ _) rfl ⟨rfl, rfl⟩
            · obtain rfl : R = (0, 0) := by
                simp at e1
                rw [hN, if_pos (.inl (by show n = 2; omega))]
              go_wp2_with fail
              exact bodyPost_ret (results_tmp2 rfl _ _ _) rfl ⟨rfl, rfl⟩
          · rw [numGo_yes 16 x hlt (by omega), hq] at he
            have e0 : decide (0 ≤ q) = true := decide_eq_true (by omega)
            have hq1 : q < 16 := hq ▸ valR_bound _ _
            go_wp2_with fail
            ((with_reducible refine (hv _ _ (byte_lt _) _).mono ?_); rintro e w1 ⟨rfl, rfl⟩)
            generalize hq2 : valR _ _ = q2
            obtain rfl : q = q2 := hq.symm.trans hq2
            go_wp2_with fail
            go_roundw
            case rel => exact ⟨n + 1, min (x * 16 + q) 4294967296, by go_num, by go_num, by omega, by omega, by omega, by omega, by rw [he]; simp; omega, trivial⟩
            case measure => simp [intOf]; omega
        · obtain rfl : n = l.length := by omega
          have u0 : decide ((l.length : Int) < (l.length : Int)) = false := decide_eq_false (by omega)
          rw [numGo_end 16 x (by omega)] at he
          subst he
          have hH : (l.drop l.length).head?.any letB = false := by simp
          cases e1 : ((l.length : Int) == 2)
          · have e1' : l.length ≠ 2 := fun h => by rw [h] at e1; cases e1
            cases e2 : decide (4294967296 ≤ x)
            · have e2' := of_decide_eq_false e2
              obtain rfl : R = (l.length, x) := by
                rw [hN, if_neg]
                · rfl
                · rintro (h | h | h)
                  · exact e1' h
                  · have h2 : 4294967296 ≤ x := h
                    omega
                  · have h3 : (l.drop l.length).head?.any letB = true := h
                    rw [hH] at h3; cases h3
              go_wp2_with fail
              exact bodyPost_ret (results_tmp2 rfl _ _ _) rfl ⟨rfl, rfl⟩
            · obtain rfl : R = (0, 0) := by rw [hN, if_pos (.inr (.inl (of_decide_eq_true e2)))]
              go_wp2_with fail
              exact bodyPost_ret (results_tmp2 rfl _ _ _) rfl ⟨rfl, rfl⟩
          · obtain rfl : R = (0, 0) := by
              have e3 := eq_of_beq e1
              rw [hN, if_pos (.inl (by show l.length = 2; omega))]
            go_wp2_with fail
            exact bodyPost_ret (results_tmp2 rfl _ _ _) rfl ⟨rfl, rfl⟩
end Go.Proofs.YtpdkpkabdkefcaaGreatDoor
namespace Go.Proofs.YtpdkpkabdkefcaaGreatDoor
open Go.Sx Go.ChangeShapes Go.WideShapes Go.RowKit Go.Joins Go.Deep Go.Rp
theorem below_drewN {b n : Nat} {w w' : World} (h : Below b w w') : Below b w (w'.drewN n) := ⟨h.os, h.tape, h.output, h.size, h.block⟩
theorem sign16 (l : Bs) (hl : l.length ≤ 1000000000000) (hp : 0 < l.length) (w : World) : Calls Tryz.prog 104 #[.string (tx l)] w fun e w' => e = .returned (.int .i64 (sgnL l)) ∧ Below w.heap.size w w' := by
  have hx : ((tx l).extract 0 2).toList = l.take 2 := by rw [ext_tx, tx_toList]; rfl
  have hN : sgnL l = if l.take 2 = [60, 60] ∨ l.take 2 = [62, 62] then 2 else if signsL.contains l[0] then 1 else 0 := by
    unfold sgnL
    split
    · rfl
    · rcases l with _ | ⟨b, r⟩
      · simp at hp
      · rfl
  generalize sgnL l = R at hN
  go_enter Tryz.func104, Tryz.ntmps104
  cases u : decide (1 < (l.length : Int))
  · have hNN : R = if signsL.contains l[0] then 1 else 0 := by
      rw [hN, if_neg]
      simp at u
      rintro (h | h)
      all_goals have := congrArg List.length h
      all_goals simp at this
      all_goals omega
    clear hN hx
    have hN2 : R = if signsL.contains l[0] then 1 else 0 := hNN
    clear hNN
    go_wp2_with fail
    generalize hS : (⟨#[44, 58, 35, 91, 93, 123, 125, 33, 61, 40, 41, 43, 45, 42, 38, 124, 126]⟩ : ByteArray) = S
    generalize hL : tx l = L
    have hSs : S.size = 17 := by subst hS; rfl
    have hSg : ∀ n (h1 : n < S.size) (h2 : n < 17), ((S[n]'h1).toNat : Int) = ((signsL[n]'h2).toNat : Int) := by subst hS; intros; rfl
    have q2 : 0 < L.size := by subst hL; exact hp
    have hL0 : ((L[0]'q2).toNat : Int) = (l[0].toNat : Int) := by subst hL; rfl
    clear hS hL
    go_loopw [4] (fun t wr => ∃ n : Nat, t = .int .i64 n ∧ n ≤ 17 ∧ R = (if (signsL.drop n).contains l[0] then 1 else 0) ∧ Below w.heap.size w wr) (fun t _ => 17 - (intOf t).toNat)
    case atStart => exact ⟨0, rfl, by omega, hN2, Below.refl _ _⟩
    case round =>
      obtain ⟨n, rfl, hn, he, hb⟩ := hrel
      clear hN2
      by_cases hlt : n < 17
      · have u0 : decide ((n : Int) < (S.size : Int)) = true := decide_eq_true (by omega)
        have q1 : n < S.size := by omega
        have hlS : n < signsL.length := hlt
        rw [List.drop_eq_getElem_cons hlS, List.contains_cons, BEq.comm (a := l[0])] at he
        have hb2 := byte_eq signsL[n] l[0]
        cases hq : (signsL[n] == l[0])
        · rw [hq] at hb2 he
          have hb3 : (((S[n]'q1).toNat : Int) == ((L[0]'q2).toNat : Int)) = false := by rw [hSg n q1 hlt, hL0]; exact hb2
          clear hb2 hq hlS hSg hL0
          go_wp2_with fail
          go_quiet (fail)
          go_wp2_with fail
          go_roundw
          case rel => exact ⟨n + 1, by go_num, by omega, he, below_drewN hb⟩
          case measure => simp [intOf]; omega
        · rw [hq] at hb2 he
          have hb3 : (((S[n]'q1).toNat : Int) == ((L[0]'q2).toNat : Int)) = true := by rw [hSg n q1 hlt, hL0]; exact hb2
          clear hb2 hq hlS hSg hL0
          go_wp2_with fail
          go_quiet (fail)
          go_wp2_with fail
          obtain rfl : R = 1 := he
          exact bodyPost_ret (results_tmp rfl _ _ _) rfl ⟨rfl, below_drewN hb⟩
      · obtain rfl : n = 17 := by omega
        obtain rfl : R = 0 := by rw [he]; rfl
        clear he hSg hL0
        have u0 : decide ((17 : Int) < (S.size : Int)) = false := decide_eq_false (by omega)
        go_wp2_with fail
        exact bodyPost_ret (results_tmp rfl _ _ _) rfl ⟨rfl, hb⟩
  · have u2 : (2 : Int) ≤ (l.length : Int) := by simp at u; omega
    cases v : (l.take 2 == [60, 60])
    · cases v2 : (l.take 2 == [62, 62])
      · have hNN : R = if signsL.contains l[0] then 1 else 0 := by
          rw [hN, if_neg]
          rintro (h | h)
          · rw [h] at v; cases v
          · rw [h] at v2; cases v2
        clear hN
        have hN2 : R = if signsL.contains l[0] then 1 else 0 := hNN
        clear hNN
        go_wp2_with fail
        generalize hS : (⟨#[44, 58, 35, 91, 93, 123, 125, 33, 61, 40, 41, 43, 45, 42, 38, 124, 126]⟩ : ByteArray) = S
        generalize hL : tx l = L
        have hSs : S.size = 17 := by subst hS; rfl
        have hSg : ∀ n (h1 : n < S.size) (h2 : n < 17), ((S[n]'h1).toNat : Int) = ((signsL[n]'h2).toNat : Int) := by subst hS; intros; rfl
        have q2 : 0 < L.size := by subst hL; exact hp
        have hL0 : ((L[0]'q2).toNat : Int) = (l[0].toNat : Int) := by subst hL; rfl
        clear hS hL
        go_loopw [4] (fun t wr => ∃ n : Nat, t = .int .i64 n ∧ n ≤ 17 ∧ R = (if (signsL.drop n).contains l[0] then 1 else 0) ∧ Below w.heap.size w wr) (fun t _ => 17 - (intOf t).toNat)
        case atStart => exact ⟨0, rfl, by omega, hN2, Below.refl _ _⟩
        case round =>
          obtain ⟨n, rfl, hn, he, hb⟩ := hrel
          clear hN2
          by_cases hlt : n < 17
          · have u0 : decide ((n : Int) < (S.size : Int)) = true := decide_eq_true (by omega)
            have q1 : n < S.size := by omega
            have hlS : n < signsL.length := hlt
            rw [List.drop_eq_getElem_cons hlS, List.contains_cons, BEq.comm (a := l[0])] at he
            have hb2 := byte_eq signsL[n] l[0]
            cases hq : (signsL[n] == l[0])
            · rw [hq] at hb2 he
              have hb3 : (((S[n]'q1).toNat : Int) == ((L[0]'q2).toNat : Int)) = false := by rw [hSg n q1 hlt, hL0]; exact hb2
              clear hb2 hq hlS hSg hL0
              go_wp2_with fail
              go_quiet (fail)
              go_wp2_with fail
              go_roundw
              case rel => exact ⟨n + 1, by go_num, by omega, he, below_drewN hb⟩
              case measure => simp [intOf]; omega
            · rw [hq] at hb2 he
              have hb3 : (((S[n]'q1).toNat : Int) == ((L[0]'q2).toNat : Int)) = true := by rw [hSg n q1 hlt, hL0]; exact hb2
              clear hb2 hq hlS hSg hL0
              go_wp2_with fail
              go_quiet (fail)
              go_wp2_with fail
              obtain rfl : R = 1 := he
              exact bodyPost_ret (results_tmp rfl _ _ _) rfl ⟨rfl, below_drewN hb⟩
          · obtain rfl : n = 17 := by omega
            obtain rfl : R = 0 := by rw [he]; rfl
            clear he hSg hL0
            have u0 : decide ((17 : Int) < (S.size : Int)) = false := decide_eq_false (by omega)
            go_wp2_with fail
            exact bodyPost_ret (results_tmp rfl _ _ _) rfl ⟨rfl, hb⟩
      · obtain rfl : R = 2 := by rw [hN, if_pos (.inr (eq_of_beq v2))]
        clear hN
        go_wp2_with fail
        exact bodyPost_ret (results_tmp rfl _ _ _) rfl ⟨rfl, Below.refl _ _⟩
    · obtain rfl : R = 2 := by rw [hN, if_pos (.inl (eq_of_beq v))]
      clear hN
      go_wp2_with fail
      exact bodyPost_ret (results_tmp rfl _ _ _) rfl ⟨rfl, Below.refl _ _⟩
end Go.Proofs.YtpdkpkabdkefcaaGreatDoor
