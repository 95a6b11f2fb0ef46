/- For the seat: texts joined: WdA. -/
import Derived.Test.YtpdkpkabdkefcaaGreatDoorJAf
import Derived.Test.YtpdkpkabdkefcaaGreatDoorJAb
set_option maxRecDepth 100000
namespace Go.Proofs.YtpdkpkabdkefcaaGreatDoor
open Go.Sx Go.ChangeShapes Go.WideShapes Go.RowKit Go.Joins Go.Deep Go.Rp
theorem cond18 (op : Int) (s : Bs) (w : World) : Calls Tryz.prog 144 #[.int .i64 op, .string (tx s)] w fun e w' => e = .returned (.tuple #[.int .i64 (condP op s).1, .bool (condP op s).2]) ∧ Below w.heap.size w w' := by
  have hf := cond04_find s
  have hR : condP op s = if !s.isEmpty && (op == 37 || op == 38) then (0, false) else (condFind s, decide (0 ≤ condFind s)) := rfl
  generalize condFind s = q at hf hR
  generalize condP op s = R at hR
  have HR := Lib.hid hR
  clear hR
  go_enter Tryz.func144, Tryz.ntmps144
  cases e1 : s.isEmpty <;> cases e2 : (op == 37) <;> cases e3 : (op == 38)
  all_goals (have hF := HR.out; rw [e1, e2, e3] at hF)
  all_goals first
    | (have hG : R = (0, false) := hF
       subst hG
       clear HR hF
       go_wp2_with (fail)
       exact bodyPost_ret (results_tmp2 rfl _ _ _) rfl ⟨rfl, Below.refl _ _⟩)
    | (have hG : R = (q, decide (0 ≤ q)) := hF
       subst hG
       clear HR hF
       go_wp2_with (fail)
       ((with_reducible refine (hf _).mono ?_); rintro e w1 ⟨rfl, hb1⟩)
       go_wp2_with (fail)
       exact bodyPost_ret (results_tmp2 rfl _ _ _) rfl ⟨rfl, hb1⟩)
theorem results_tmp5 {fn : Func} {t u v x y : Tmp} (h : fn.results = #[.tmp t, .tmp u, .tmp v, .tmp x, .tmp y]) (tmps : Array Value) (P : Program) (w : World) :
    (results fn tmps).run P w = .ok (.tuple #[tmps.getD t undef, tmps.getD u undef, tmps.getD v undef, tmps.getD x undef, tmps.getD y undef]) w := by
  simp [results, h]
theorem wordF_hit {base : Bs} {wide : Bool} {f k : Nat} {p : Bool × Int} (h : wordAt base wide k = some p) : wordF base wide (f + 1) k = some (k, p) := by rw [wordF, h]
theorem wordF_miss {base : Bs} {wide : Bool} {f k : Nat} (h : wordAt base wide k = none) : wordF base wide (f + 1) k = wordF base wide f (k + 1) := by rw [wordF, h]
set_option maxHeartbeats 8000000 in
theorem word18 (l : Bs) (hl : l.length ≤ 1000000000000) (w : World) : Calls Tryz.prog 111 #[.string (tx l)] w fun e w' =>
    e = .returned (.tuple #[.int .i64 (wordP l).1, .bool (wordP l).2.1, .int .i64 (wordP l).2.2.1, .bool (wordP l).2.2.2.1, .bool (wordP l).2.2.2.2]) ∧ Below w.heap.size w w' := by
  have hn := op06_name
  have hc := cond18
  have hs := sets06
  have hR : wordP l = match wordF (baseW l) (wideW l) 45 1 with | some p => ((p.1 : Int), p.2.1, p.2.2, wideW l, true) | none => (0, false, 0, false, false) := rfl
  have hW : wideW l = (decide (2 < l.length) && (l.drop (l.length - 2) == [46, 119])) := rfl
  have hB : baseW l = if wideW l then l.take (l.length - 2) else l := rfl
  have hbl : (baseW l).length ≤ l.length := by
    rw [hB]
    split <;> simp
  generalize wordP l = R at hR
  generalize wideW l = wd at hW hB hR
  generalize baseW l = base at hB hR hbl
  have HR := Lib.hid hR
  clear hR
  have hX : ((tx l).extract (l.length - 2) l.length) = tx (l.drop (l.length - 2)) := by rw [ext_tx, List.take_of_length_le (by simp)]
  have hX2 : ((tx l).extract 0 (l.length - 2)) = tx (l.take (l.length - 2)) := by rw [ext_tx]; rfl
  go_enter Tryz.func111, Tryz.ntmps111
  cases u1 : decide (2 < (l.length : Int))
  · have e1 : decide (2 < l.length) = false := by have := of_decide_eq_false u1; exact decide_eq_false (by omega)
    obtain rfl : wd = false := by rw [hW, e1]; rfl
    obtain rfl : base = l := by rw [hB]; rfl
    clear hW hB hX hX2
    go_wp2_with (fail)
    clear u1
    go_loopw [9] (fun t wr => ∃ k : Nat, t = .int .i64 k ∧ 1 ≤ k ∧ k ≤ 46 ∧ Hid (R = (match wordF base false (46 - k) k with | some p => ((p.1 : Int), p.2.1, p.2.2, false, true) | none => (0, false, 0, false, false))) ∧ Below w.heap.size w wr) (fun t _ => 46 - (intOf t).toNat)
    case atStart => exact ⟨1, rfl, by omega, by omega, HR, Below.refl _ _⟩
    case round =>
      obtain ⟨k, rfl, hk1, hk, he, hb⟩ := hrel
      clear HR
      have he1 := he.out
      clear he
      by_cases hlt : k < 46
      · have u0 : decide ((k : Int) ≤ 45) = true := decide_eq_true (by omega)
        have hF2 : 45 - k = 46 - (k + 1) := by omega
        rw [show 46 - k = (45 - k) + 1 by omega] at he1
        have hAt : wordAt base false k = (if k = 42 ∨ base.length < (Rp.opName k).length ∨ base.take (Rp.opName k).length ≠ Rp.opName k then none
          else if false = true ∧ (k = 37 ∨ k = 38 ∨ k = 39 ∨ k = 44) then none
          else if (condP k (base.drop (Rp.opName k).length)).2 then some (false, (condP k (base.drop (Rp.opName k).length)).1)
          else if opSets k = true ∧ (base.drop (Rp.opName k).length).head? = some 115 then
            (if (condP k (base.drop (Rp.opName k).length).tail).2 then some (true, (condP k (base.drop (Rp.opName k).length).tail).1) else none)
          else none) := rfl
        have HR1 := Lib.hid he1
        have HA := Lib.hid hAt
        clear he1 hAt
        go_wp2_with (fail)
        ((with_reducible refine (hn _ _).mono ?_); rintro e w1 ⟨rfl, hb0⟩)
        have hb1 := hb.trans (hb0.mono hb.size)
        have he1 := HR1.out
        have hAt := HA.out
        clear HR1 HA
        have hnl : (Rp.opName (k : Int)).length ≤ 1000 := by
          unfold Rp.opName
          split
          · simp
          · rw [List.getD_eq_getElem?_getD]
            cases hq : opN[(k : Int).toNat]? with
            | none => simp
            | some y =>
              have : ∀ y ∈ opN, y.length ≤ 1000 := by decide
              exact this y (List.mem_of_getElem? hq)
        generalize Rp.opName (k : Int) = nm at hAt hnl ⊢
        have hXk : (tx base).extract 0 nm.length = tx (base.take nm.length) := by rw [ext_tx]; rfl
        have hXd : (tx base).extract nm.length base.length = tx (base.drop nm.length) := by rw [ext_tx, List.take_of_length_le (by simp)]
        cases e42 : ((k : Int) == 42)
        rotate_left
        · rw [if_pos (.inl (by have := eq_of_beq e42; omega))] at hAt
          have HE := Lib.hid (show R = (match wordF base false (46 - (k + 1)) (k + 1) with | some p => ((p.1 : Int), p.2.1, p.2.2, false, true) | none => (0, false, 0, false, false)) by rw [he1, wordF_miss hAt, hF2])
          clear he1
          go_wp2_with (fail)
          go_roundw
          case rel => exact ⟨k + 1, by go_num, by omega, by omega, HE, hb1⟩
          case measure => exact meas_lt 46 k hlt _ rfl
        have n42 := ne_of_beq_false e42
        cases elt : decide ((base.length : Int) < (nm.length : Int))
        rotate_left
        · have ult : (base.length : Int) < (nm.length : Int) := of_decide_eq_true elt
          rw [if_pos (.inr (.inl (by omega)))] at hAt
          have HE := Lib.hid (show R = (match wordF base false (46 - (k + 1)) (k + 1) with | some p => ((p.1 : Int), p.2.1, p.2.2, false, true) | none => (0, false, 0, false, false)) by rw [he1, wordF_miss hAt, hF2])
          clear he1
          go_wp2_with (fail)
          go_roundw
          case rel => exact ⟨k + 1, by go_num, by omega, by omega, HE, hb1⟩
          case measure => exact meas_lt 46 k hlt _ rfl
        have nlt := of_decide_eq_false elt
        have ule : (nm.length : Int) ≤ (base.length : Int) := by omega
        cases epre : (base.take nm.length == nm)
        · rw [if_pos (.inr (.inr (ne_of_beq_false epre)))] at hAt
          have HE := Lib.hid (show R = (match wordF base false (46 - (k + 1)) (k + 1) with | some p => ((p.1 : Int), p.2.1, p.2.2, false, true) | none => (0, false, 0, false, false)) by rw [he1, wordF_miss hAt, hF2])
          clear he1
          go_wp2_with (fail)
          go_roundw
          case rel => exact ⟨k + 1, by go_num, by omega, by omega, HE, hb1⟩
          case measure => exact meas_lt 46 k hlt _ rfl
        have npre := eq_of_beq epre
        rw [if_neg (by rintro (h | h | h); omega; omega; exact h npre)] at hAt
        clear npre
        rw [if_neg (by rintro ⟨h, _⟩; cases h)] at hAt
        have HA := Lib.hid hAt
        have HR1 := Lib.hid he1
        clear hAt he1
        go_wp2_with (fail)
        ((with_reducible refine (hc _ _ _).mono ?_); rintro e w2 ⟨rfl, hb2'⟩)
        have hb2 := hb1.trans (hb2'.mono hb1.size)
        have hAt := HA.out
        have he1 := HR1.out
        clear HA HR1 hXk hXd
        generalize condP (k : Int) (base.drop nm.length) = c1 at hAt ⊢
        obtain ⟨c1, b1⟩ := c1
        cases b1
        rotate_left
        · rw [if_pos rfl] at hAt
          have hRR : R = ((k : Int), false, c1, false, true) := by rw [he1, wordF_hit hAt]
          subst hRR
          clear he1
          go_wp2_with (fail)
          exact bodyPost_ret (results_tmp5 rfl _ _ _) rfl ⟨rfl, hb2⟩
        rw [if_neg Bool.false_ne_true] at hAt
        generalize base.drop nm.length = rest at hAt ⊢
        have HA := Lib.hid hAt
        have HR1 := Lib.hid he1
        clear hAt he1
        go_wp2_with (fail)
        ((with_reducible refine (hs _ _).mono ?_); rintro e w3 ⟨rfl, rfl⟩)
        have hAt := HA.out
        have he1 := HR1.out
        clear HA HR1
        generalize opSets (k : Int) = q at hAt ⊢
        cases q
        · rw [if_neg (by rintro ⟨h, _⟩; cases h)] at hAt
          have HE := Lib.hid (show R = (match wordF base false (46 - (k + 1)) (k + 1) with | some p => ((p.1 : Int), p.2.1, p.2.2, false, true) | none => (0, false, 0, false, false)) by rw [he1, wordF_miss hAt, hF2])
          clear he1
          go_wp2_with (fail)
          go_roundw
          case rel => exact ⟨k + 1, by go_num, by omega, by omega, HE, hb2⟩
          case measure => exact meas_lt 46 k hlt _ rfl
        rcases rest with _ | ⟨b, r⟩
        · rw [if_neg (by rintro ⟨_, h⟩; cases h)] at hAt
          have HE := Lib.hid (show R = (match wordF base false (46 - (k + 1)) (k + 1) with | some p => ((p.1 : Int), p.2.1, p.2.2, false, true) | none => (0, false, 0, false, false)) by rw [he1, wordF_miss hAt, hF2])
          clear he1
          go_wp2_with (fail)
          go_roundw
          case rel => exact ⟨k + 1, by go_num, by omega, by omega, HE, hb2⟩
          case measure => exact meas_lt 46 k hlt _ rfl
        have hbe := byte_eq b 115
        cases eb : (b == 115)
        · rw [if_neg (by rintro ⟨_, h⟩; simp at h; exact ne_of_beq_false eb h)] at hAt
          rw [eb] at hbe
          have hbz : ((((tx (b :: r))[0]'(by simp [ByteArray.size])).toNat : Int) == 115) = false := hbe
          clear hbe
          have HE := Lib.hid (show R = (match wordF base false (46 - (k + 1)) (k + 1) with | some p => ((p.1 : Int), p.2.1, p.2.2, false, true) | none => (0, false, 0, false, false)) by rw [he1, wordF_miss hAt, hF2])
          clear he1
          go_wp2_with (fail)
          go_roundw
          case rel => exact ⟨k + 1, by go_num, by omega, by omega, HE, hb2⟩
          case measure => exact meas_lt 46 k hlt _ rfl
        rw [if_pos ⟨rfl, by simp; exact eq_of_beq eb⟩, List.tail_cons] at hAt
        rw [eb] at hbe
        have hbz : ((((tx (b :: r))[0]'(by simp [ByteArray.size])).toNat : Int) == 115) = true := hbe
        have hXr : (tx (b :: r)).extract 1 (r.length + 1) = tx r := by rw [ext_tx]; simp
        clear hbe eb
        have HA := Lib.hid hAt
        have HR1 := Lib.hid he1
        clear hAt he1
        go_wp2_with (fail)
        ((with_reducible refine (hc _ _ _).mono ?_); rintro e w4 ⟨rfl, hb4'⟩)
        have hb4 := hb2.trans (hb4'.mono hb2.size)
        have hAt := HA.out
        have he1 := HR1.out
        clear HA HR1
        generalize condP (k : Int) r = c2 at hAt ⊢
        obtain ⟨c2, b2⟩ := c2
        cases b2
        · rw [if_neg Bool.false_ne_true] at hAt
          have HE := Lib.hid (show R = (match wordF base false (46 - (k + 1)) (k + 1) with | some p => ((p.1 : Int), p.2.1, p.2.2, false, true) | none => (0, false, 0, false, false)) by rw [he1, wordF_miss hAt, hF2])
          clear he1
          go_wp2_with (fail)
          go_roundw
          case rel => exact ⟨k + 1, by go_num, by omega, by omega, HE, hb4⟩
          case measure => exact meas_lt 46 k hlt _ rfl
        · rw [if_pos rfl] at hAt
          have hRR : R = ((k : Int), true, c2, false, true) := by rw [he1, wordF_hit hAt]
          subst hRR
          clear he1
          go_wp2_with (fail)
          exact bodyPost_ret (results_tmp5 rfl _ _ _) rfl ⟨rfl, hb4⟩
      · obtain rfl : k = 46 := by omega
        have hRR : R = (0, false, 0, false, false) := he1
        subst hRR
        clear he1
        go_wp2_with (fail)
        exact bodyPost_ret (results_tmp5 rfl _ _ _) rfl ⟨rfl, hb⟩
  · have e1 : decide (2 < l.length) = true := by have := of_decide_eq_true u1; exact decide_eq_true (by omega)
    have u2 : (2 : Int) ≤ (l.length : Int) := by have := of_decide_eq_true u1; omega
    cases u3 : (l.drop (l.length - 2) == [46, 119])
    · obtain rfl : wd = false := by rw [hW, e1, u3]; rfl
      obtain rfl : base = l := by rw [hB]; rfl
      clear hW hB hX2 e1
      go_wp2_with (fail)
      clear u1 u2 u3 hX
      go_loopw [9] (fun t wr => ∃ k : Nat, t = .int .i64 k ∧ 1 ≤ k ∧ k ≤ 46 ∧ Hid (R = (match wordF base false (46 - k) k with | some p => ((p.1 : Int), p.2.1, p.2.2, false, true) | none => (0, false, 0, false, false))) ∧ Below w.heap.size w wr) (fun t _ => 46 - (intOf t).toNat)
      case atStart => exact ⟨1, rfl, by omega, by omega, HR, Below.refl _ _⟩
      case round =>
        obtain ⟨k, rfl, hk1, hk, he, hb⟩ := hrel
        clear HR
        have he1 := he.out
        clear he
        by_cases hlt : k < 46
        · have u0 : decide ((k : Int) ≤ 45) = true := decide_eq_true (by omega)
          have hF2 : 45 - k = 46 - (k + 1) := by omega
          rw [show 46 - k = (45 - k) + 1 by omega] at he1
          have hAt : wordAt base false k = (if k = 42 ∨ base.length < (Rp.opName k).length ∨ base.take (Rp.opName k).length ≠ Rp.opName k then none
            else if false = true ∧ (k = 37 ∨ k = 38 ∨ k = 39 ∨ k = 44) then none
            else if (condP k (base.drop (Rp.opName k).length)).2 then some (false, (condP k (base.drop (Rp.opName k).length)).1)
            else if opSets k = true ∧ (base.drop (Rp.opName k).length).head? = some 115 then
              (if (condP k (base.drop (Rp.opName k).length).tail).2 then some (true, (condP k (base.drop (Rp.opName k).length).tail).1) else none)
            else none) := rfl
          have HR1 := Lib.hid he1
          have HA := Lib.hid hAt
          clear he1 hAt
          go_wp2_with (fail)
          ((with_reducible refine (hn _ _).mono ?_); rintro e w1 ⟨rfl, hb0⟩)
          have hb1 := hb.trans (hb0.mono hb.size)
          have he1 := HR1.out
          have hAt := HA.out
          clear HR1 HA
          have hnl : (Rp.opName (k : Int)).length ≤ 1000 := by
            unfold Rp.opName
            split
            · simp
            · rw [List.getD_eq_getElem?_getD]
              cases hq : opN[(k : Int).toNat]? with
              | none => simp
              | some y =>
                have : ∀ y ∈ opN, y.length ≤ 1000 := by decide
                exact this y (List.mem_of_getElem? hq)
          generalize Rp.opName (k : Int) = nm at hAt hnl ⊢
          have hXk : (tx base).extract 0 nm.length = tx (base.take nm.length) := by rw [ext_tx]; rfl
          have hXd : (tx base).extract nm.length base.length = tx (base.drop nm.length) := by rw [ext_tx, List.take_of_length_le (by simp)]
          cases e42 : ((k : Int) == 42)
          rotate_left
          · rw [if_pos (.inl (by have := eq_of_beq e42; omega))] at hAt
            have HE := Lib.hid (show R = (match wordF base false (46 - (k + 1)) (k + 1) with | some p => ((p.1 : Int), p.2.1, p.2.2, false, true) | none => (0, false, 0, false, false)) by rw [he1, wordF_miss hAt, hF2])
            clear he1
            go_wp2_with (fail)
            go_roundw
            case rel => exact ⟨k + 1, by go_num, by omega, by omega, HE, hb1⟩
            case measure => exact meas_lt 46 k hlt _ rfl
          have n42 := ne_of_beq_false e42
          cases elt : decide ((base.length : Int) < (nm.length : Int))
          rotate_left
          · have ult : (base.length : Int) < (nm.length : Int) := of_decide_eq_true elt
            rw [if_pos (.inr (.inl (by omega)))] at hAt
            have HE := Lib.hid (show R = (match wordF base false (46 - (k + 1)) (k + 1) with | some p => ((p.1 : Int), p.2.1, p.2.2, false, true) | none => (0, false, 0, false, false)) by rw [he1, wordF_miss hAt, hF2])
            clear he1
            go_wp2_with (fail)
            go_roundw
            case rel => exact ⟨k + 1, by go_num, by omega, by omega, HE, hb1⟩
            case measure => exact meas_lt 46 k hlt _ rfl
          have nlt := of_decide_eq_false elt
          have ule : (nm.length : Int) ≤ (base.length : Int) := by omega
          cases epre : (base.take nm.length == nm)
          · rw [if_pos (.inr (.inr (ne_of_beq_false epre)))] at hAt
            have HE := Lib.hid (show R = (match wordF base false (46 - (k + 1)) (k + 1) with | some p => ((p.1 : Int), p.2.1, p.2.2, false, true) | none => (0, false, 0, false, false)) by rw [he1, wordF_miss hAt, hF2])
            clear he1
            go_wp2_with (fail)
            go_roundw
            case rel => exact ⟨k + 1, by go_num, by omega, by omega, HE, hb1⟩
            case measure => exact meas_lt 46 k hlt _ rfl
          have npre := eq_of_beq epre
          rw [if_neg (by rintro (h | h | h); omega; omega; exact h npre)] at hAt
          clear npre
          rw [if_neg (by rintro ⟨h, _⟩; cases h)] at hAt
          have HA := Lib.hid hAt
          have HR1 := Lib.hid he1
          clear hAt he1
          go_wp2_with (fail)
          ((with_reducible refine (hc _ _ _).mono ?_); rintro e w2 ⟨rfl, hb2'⟩)
          have hb2 := hb1.trans (hb2'.mono hb1.size)
          have hAt := HA.out
          have he1 := HR1.out
          clear HA HR1 hXk hXd
          generalize condP (k : Int) (base.drop nm.length) = c1 at hAt ⊢
          obtain ⟨c1, b1⟩ := c1
          cases b1
          rotate_left
          · rw [if_pos rfl] at hAt
            have hRR : R = ((k : Int), false, c1, false, true) := by rw [he1, wordF_hit hAt]
            subst hRR
            clear he1
            go_wp2_with (fail)
            exact bodyPost_ret (results_tmp5 rfl _ _ _) rfl ⟨rfl, hb2⟩
          rw [if_neg Bool.false_ne_true] at hAt
          generalize base.drop nm.length = rest at hAt ⊢
          have HA := Lib.hid hAt
          have HR1 := Lib.hid he1
          clear hAt he1
          go_wp2_with (fail)
          ((with_reducible refine (hs _ _).mono ?_); rintro e w3 ⟨rfl, rfl⟩)
          have hAt := HA.out
          have he1 := HR1.out
          clear HA HR1
          generalize opSets (k : Int) = q at hAt ⊢
          cases q
          · rw [if_neg (by rintro ⟨h, _⟩; cases h)] at hAt
            have HE := Lib.hid (show R = (match wordF base false (46 - (k + 1)) (k + 1) with | some p => ((p.1 : Int), p.2.1, p.2.2, false, true) | none => (0, false, 0, false, false)) by rw [he1, wordF_miss hAt, hF2])
            clear he1
            go_wp2_with (fail)
            go_roundw
            case rel => exact ⟨k + 1, by go_num, by omega, by omega, HE, hb2⟩
            case measure => exact meas_lt 46 k hlt _ rfl
          rcases rest with _ | ⟨b, r⟩
          · rw [if_neg (by rintro ⟨_, h⟩; cases h)] at hAt
            have HE := Lib.hid (show R = (match wordF base false (46 - (k + 1)) (k + 1) with | some p => ((p.1 : Int), p.2.1, p.2.2, false, true) | none => (0, false, 0, false, false)) by rw [he1, wordF_miss hAt, hF2])
            clear he1
            go_wp2_with (fail)
            go_roundw
            case rel => exact ⟨k + 1, by go_num, by omega, by omega, HE, hb2⟩
            case measure => exact meas_lt 46 k hlt _ rfl
          have hbe := byte_eq b 115
          cases eb : (b == 115)
          · rw [if_neg (by rintro ⟨_, h⟩; simp at h; exact ne_of_beq_false eb h)] at hAt
            rw [eb] at hbe
            have hbz : ((((tx (b :: r))[0]'(by simp [ByteArray.size])).toNat : Int) == 115) = false := hbe
            clear hbe
            have HE := Lib.hid (show R = (match wordF base false (46 - (k + 1)) (k + 1) with | some p => ((p.1 : Int), p.2.1, p.2.2, false, true) | none => (0, false, 0, false, false)) by rw [he1, wordF_miss hAt, hF2])
            clear he1
            go_wp2_with (fail)
            go_roundw
            case rel => exact ⟨k + 1, by go_num, by omega, by omega, HE, hb2⟩
            case measure => exact meas_lt 46 k hlt _ rfl
          rw [if_pos ⟨rfl, by simp; exact eq_of_beq eb⟩, List.tail_cons] at hAt
          rw [eb] at hbe
          have hbz : ((((tx (b :: r))[0]'(by simp [ByteArray.size])).toNat : Int) == 115) = true := hbe
          have hXr : (tx (b :: r)).extract 1 (r.length + 1) = tx r := by rw [ext_tx]; simp
          clear hbe eb
          have HA := Lib.hid hAt
          have HR1 := Lib.hid he1
          clear hAt he1
          go_wp2_with (fail)
          ((with_reducible refine (hc _ _ _).mono ?_); rintro e w4 ⟨rfl, hb4'⟩)
          have hb4 := hb2.trans (hb4'.mono hb2.size)
          have hAt := HA.out
          have he1 := HR1.out
          clear HA HR1
          generalize condP (k : Int) r = c2 at hAt ⊢
          obtain ⟨c2, b2⟩ := c2
          cases b2
          · rw [if_neg Bool.false_ne_true] at hAt
            have HE := Lib.hid (show R = (match wordF base false (46 - (k + 1)) (k + 1) with | some p => ((p.1 : Int), p.2.1, p.2.2, false, true) | none => (0, false, 0, false, false)) by rw [he1, wordF_miss hAt, hF2])
            clear he1
            go_wp2_with (fail)
            go_roundw
            case rel => exact ⟨k + 1, by go_num, by omega, by omega, HE, hb4⟩
            case measure => exact meas_lt 46 k hlt _ rfl
          · rw [if_pos rfl] at hAt
            have hRR : R = ((k : Int), true, c2, false, true) := by rw [he1, wordF_hit hAt]
            subst hRR
            clear he1
            go_wp2_with (fail)
            exact bodyPost_ret (results_tmp5 rfl _ _ _) rfl ⟨rfl, hb4⟩
        · obtain rfl : k = 46 := by omega
          have hRR : R = (0, false, 0, false, false) := he1
          subst hRR
          clear he1
          go_wp2_with (fail)
          exact bodyPost_ret (results_tmp5 rfl _ _ _) rfl ⟨rfl, hb⟩
    · obtain rfl : wd = true := by rw [hW, e1, u3]; rfl
      obtain rfl : base = l.take (l.length - 2) := by rw [hB]; rfl
      clear hW hB e1
      go_wp2_with (fail)
      rw [hX2]
      clear u1 u2 u3 hX hX2
      generalize l.take (l.length - 2) = base at hbl HR ⊢
      go_loopw [9] (fun t wr => ∃ k : Nat, t = .int .i64 k ∧ 1 ≤ k ∧ k ≤ 46 ∧ Hid (R = (match wordF base true (46 - k) k with | some p => ((p.1 : Int), p.2.1, p.2.2, true, true) | none => (0, false, 0, false, false))) ∧ Below w.heap.size w wr) (fun t _ => 46 - (intOf t).toNat)
      case atStart => exact ⟨1, rfl, by omega, by omega, HR, Below.refl _ _⟩
      case round =>
        obtain ⟨k, rfl, hk1, hk, he, hb⟩ := hrel
        clear HR
        have he1 := he.out
        clear he
        by_cases hlt : k < 46
        · have u0 : decide ((k : Int) ≤ 45) = true := decide_eq_true (by omega)
          have hF2 : 45 - k = 46 - (k + 1) := by omega
          rw [show 46 - k = (45 - k) + 1 by omega] at he1
          have hAt : wordAt base true k = (if k = 42 ∨ base.length < (Rp.opName k).length ∨ base.take (Rp.opName k).length ≠ Rp.opName k then none
            else if true = true ∧ (k = 37 ∨ k = 38 ∨ k = 39 ∨ k = 44) then none
            else if (condP k (base.drop (Rp.opName k).length)).2 then some (false, (condP k (base.drop (Rp.opName k).length)).1)
            else if opSets k = true ∧ (base.drop (Rp.opName k).length).head? = some 115 then
              (if (condP k (base.drop (Rp.opName k).length).tail).2 then some (true, (condP k (base.drop (Rp.opName k).length).tail).1) else none)
            else none) := rfl
          have HR1 := Lib.hid he1
          have HA := Lib.hid hAt
          clear he1 hAt
          go_wp2_with (fail)
          ((with_reducible refine (hn _ _).mono ?_); rintro e w1 ⟨rfl, hb0⟩)
          have hb1 := hb.trans (hb0.mono hb.size)
          have he1 := HR1.out
          have hAt := HA.out
          clear HR1 HA
          have hnl : (Rp.opName (k : Int)).length ≤ 1000 := by
            unfold Rp.opName
            split
            · simp
            · rw [List.getD_eq_getElem?_getD]
              cases hq : opN[(k : Int).toNat]? with
              | none => simp
              | some y =>
                have : ∀ y ∈ opN, y.length ≤ 1000 := by decide
                exact this y (List.mem_of_getElem? hq)
          generalize Rp.opName (k : Int) = nm at hAt hnl ⊢
          have hXk : (tx base).extract 0 nm.length = tx (base.take nm.length) := by rw [ext_tx]; rfl
          have hXd : (tx base).extract nm.length base.length = tx (base.drop nm.length) := by rw [ext_tx, List.take_of_length_le (by simp)]
          cases e42 : ((k : Int) == 42)
          rotate_left
          · rw [if_pos (.inl (by have := eq_of_beq e42; omega))] at hAt
            have HE := Lib.hid (show R = (match wordF base true (46 - (k + 1)) (k + 1) with | some p => ((p.1 : Int), p.2.1, p.2.2, true, true) | none => (0, false, 0, false, false)) by rw [he1, wordF_miss hAt, hF2])
            clear he1
            go_wp2_with (fail)
            go_roundw
            case rel => exact ⟨k + 1, by go_num, by omega, by omega, HE, hb1⟩
            case measure => exact meas_lt 46 k hlt _ rfl
          have n42 := ne_of_beq_false e42
          cases elt : decide ((base.length : Int) < (nm.length : Int))
          rotate_left
          · have ult : (base.length : Int) < (nm.length : Int) := of_decide_eq_true elt
            rw [if_pos (.inr (.inl (by omega)))] at hAt
            have HE := Lib.hid (show R = (match wordF base true (46 - (k + 1)) (k + 1) with | some p => ((p.1 : Int), p.2.1, p.2.2, true, true) | none => (0, false, 0, false, false)) by rw [he1, wordF_miss hAt, hF2])
            clear he1
            go_wp2_with (fail)
            go_roundw
            case rel => exact ⟨k + 1, by go_num, by omega, by omega, HE, hb1⟩
            case measure => exact meas_lt 46 k hlt _ rfl
          have nlt := of_decide_eq_false elt
          have ule : (nm.length : Int) ≤ (base.length : Int) := by omega
          cases epre : (base.take nm.length == nm)
          · rw [if_pos (.inr (.inr (ne_of_beq_false epre)))] at hAt
            have HE := Lib.hid (show R = (match wordF base true (46 - (k + 1)) (k + 1) with | some p => ((p.1 : Int), p.2.1, p.2.2, true, true) | none => (0, false, 0, false, false)) by rw [he1, wordF_miss hAt, hF2])
            clear he1
            go_wp2_with (fail)
            go_roundw
            case rel => exact ⟨k + 1, by go_num, by omega, by omega, HE, hb1⟩
            case measure => exact meas_lt 46 k hlt _ rfl
          have npre := eq_of_beq epre
          rw [if_neg (by rintro (h | h | h); omega; omega; exact h npre)] at hAt
          clear npre
          cases e37 : ((k : Int) == 37)
          rotate_left
          · rw [if_pos ⟨trivial, .inl (by have := eq_of_beq e37; omega)⟩] at hAt
            have HE := Lib.hid (show R = (match wordF base true (46 - (k + 1)) (k + 1) with | some p => ((p.1 : Int), p.2.1, p.2.2, true, true) | none => (0, false, 0, false, false)) by rw [he1, wordF_miss hAt, hF2])
            clear he1
            go_wp2_with (fail)
            go_roundw
            case rel => exact ⟨k + 1, by go_num, by omega, by omega, HE, hb1⟩
            case measure => exact meas_lt 46 k hlt _ rfl
          cases e38 : ((k : Int) == 38)
          rotate_left
          · rw [if_pos ⟨trivial, .inr (.inl (by have := eq_of_beq e38; omega))⟩] at hAt
            have HE := Lib.hid (show R = (match wordF base true (46 - (k + 1)) (k + 1) with | some p => ((p.1 : Int), p.2.1, p.2.2, true, true) | none => (0, false, 0, false, false)) by rw [he1, wordF_miss hAt, hF2])
            clear he1
            go_wp2_with (fail)
            go_roundw
            case rel => exact ⟨k + 1, by go_num, by omega, by omega, HE, hb1⟩
            case measure => exact meas_lt 46 k hlt _ rfl
          cases e39 : ((k : Int) == 39)
          rotate_left
          · rw [if_pos ⟨trivial, .inr (.inr (.inl (by have := eq_of_beq e39; omega)))⟩] at hAt
            have HE := Lib.hid (show R = (match wordF base true (46 - (k + 1)) (k + 1) with | some p => ((p.1 : Int), p.2.1, p.2.2, true, true) | none => (0, false, 0, false, false)) by rw [he1, wordF_miss hAt, hF2])
            clear he1
            go_wp2_with (fail)
            go_roundw
            case rel => exact ⟨k + 1, by go_num, by omega, by omega, HE, hb1⟩
            case measure => exact meas_lt 46 k hlt _ rfl
          cases e44 : ((k : Int) == 44)
          rotate_left
          · rw [if_pos ⟨trivial, .inr (.inr (.inr (by have := eq_of_beq e44; omega)))⟩] at hAt
            have HE := Lib.hid (show R = (match wordF base true (46 - (k + 1)) (k + 1) with | some p => ((p.1 : Int), p.2.1, p.2.2, true, true) | none => (0, false, 0, false, false)) by rw [he1, wordF_miss hAt, hF2])
            clear he1
            go_wp2_with (fail)
            go_roundw
            case rel => exact ⟨k + 1, by go_num, by omega, by omega, HE, hb1⟩
            case measure => exact meas_lt 46 k hlt _ rfl
          rw [if_neg (by rintro ⟨_, h⟩; have a := ne_of_beq_false e37; have b := ne_of_beq_false e38; have c := ne_of_beq_false e39; have d := ne_of_beq_false e44; omega)] at hAt
          have HA := Lib.hid hAt
          have HR1 := Lib.hid he1
          clear hAt he1
          go_wp2_with (fail)
          ((with_reducible refine (hc _ _ _).mono ?_); rintro e w2 ⟨rfl, hb2'⟩)
          have hb2 := hb1.trans (hb2'.mono hb1.size)
          have hAt := HA.out
          have he1 := HR1.out
          clear HA HR1 hXk hXd
          generalize condP (k : Int) (base.drop nm.length) = c1 at hAt ⊢
          obtain ⟨c1, b1⟩ := c1
          cases b1
          rotate_left
          · rw [if_pos rfl] at hAt
            have hRR : R = ((k : Int), false, c1, true, true) := by rw [he1, wordF_hit hAt]
            subst hRR
            clear he1
            go_wp2_with (fail)
            exact bodyPost_ret (results_tmp5 rfl _ _ _) rfl ⟨rfl, hb2⟩
          rw [if_neg Bool.false_ne_true] at hAt
          generalize base.drop nm.length = rest at hAt ⊢
          have HA := Lib.hid hAt
          have HR1 := Lib.hid he1
          clear hAt he1
          go_wp2_with (fail)
          ((with_reducible refine (hs _ _).mono ?_); rintro e w3 ⟨rfl, rfl⟩)
          have hAt := HA.out
          have he1 := HR1.out
          clear HA HR1
          generalize opSets (k : Int) = q at hAt ⊢
          cases q
          · rw [if_neg (by rintro ⟨h, _⟩; cases h)] at hAt
            have HE := Lib.hid (show R = (match wordF base true (46 - (k + 1)) (k + 1) with | some p => ((p.1 : Int), p.2.1, p.2.2, true, true) | none => (0, false, 0, false, false)) by rw [he1, wordF_miss hAt, hF2])
            clear he1
            go_wp2_with (fail)
            go_roundw
            case rel => exact ⟨k + 1, by go_num, by omega, by omega, HE, hb2⟩
            case measure => exact meas_lt 46 k hlt _ rfl
          rcases rest with _ | ⟨b, r⟩
          · rw [if_neg (by rintro ⟨_, h⟩; cases h)] at hAt
            have HE := Lib.hid (show R = (match wordF base true (46 - (k + 1)) (k + 1) with | some p => ((p.1 : Int), p.2.1, p.2.2, true, true) | none => (0, false, 0, false, false)) by rw [he1, wordF_miss hAt, hF2])
            clear he1
            go_wp2_with (fail)
            go_roundw
            case rel => exact ⟨k + 1, by go_num, by omega, by omega, HE, hb2⟩
            case measure => exact meas_lt 46 k hlt _ rfl
          have hbe := byte_eq b 115
          cases eb : (b == 115)
          · rw [if_neg (by rintro ⟨_, h⟩; simp at h; exact ne_of_beq_false eb h)] at hAt
            rw [eb] at hbe
            have hbz : ((((tx (b :: r))[0]'(by simp [ByteArray.size])).toNat : Int) == 115) = false := hbe
            clear hbe
            have HE := Lib.hid (show R = (match wordF base true (46 - (k + 1)) (k + 1) with | some p => ((p.1 : Int), p.2.1, p.2.2, true, true) | none => (0, false, 0, false, false)) by rw [he1, wordF_miss hAt, hF2])
            clear he1
            go_wp2_with (fail)
            go_roundw
            case rel => exact ⟨k + 1, by go_num, by omega, by omega, HE, hb2⟩
            case measure => exact meas_lt 46 k hlt _ rfl
          rw [if_pos ⟨rfl, by simp; exact eq_of_beq eb⟩, List.tail_cons] at hAt
          rw [eb] at hbe
          have hbz : ((((tx (b :: r))[0]'(by simp [ByteArray.size])).toNat : Int) == 115) = true := hbe
          have hXr : (tx (b :: r)).extract 1 (r.length + 1) = tx r := by rw [ext_tx]; simp
          clear hbe eb
          have HA := Lib.hid hAt
          have HR1 := Lib.hid he1
          clear hAt he1
          go_wp2_with (fail)
          ((with_reducible refine (hc _ _ _).mono ?_); rintro e w4 ⟨rfl, hb4'⟩)
          have hb4 := hb2.trans (hb4'.mono hb2.size)
          have hAt := HA.out
          have he1 := HR1.out
          clear HA HR1
          generalize condP (k : Int) r = c2 at hAt ⊢
          obtain ⟨c2, b2⟩ := c2
          cases b2
          · rw [if_neg Bool.false_ne_true] at hAt
            have HE := Lib.hid (show R = (match wordF base true (46 - (k + 1)) (k + 1) with | some p => ((p.1 : Int), p.2.1, p.2.2, true, true) | none => (0, false, 0, false, false)) by rw [he1, wordF_miss hAt, hF2])
            clear he1
            go_wp2_with (fail)
            go_roundw
            case rel => exact ⟨k + 1, by go_num, by omega, by omega, HE, hb4⟩
            case measure => exact meas_lt 46 k hlt _ rfl
          · rw [if_pos rfl] at hAt
            have hRR : R = ((k : Int), true, c2, true, true) := by rw [he1, wordF_hit hAt]
            subst hRR
            clear he1
            go_wp2_with (fail)
            exact bodyPost_ret (results_tmp5 rfl _ _ _) rfl ⟨rfl, hb4⟩
        · obtain rfl : k = 46 := by omega
          have hRR : R = (0, false, 0, false, false) := he1
          subst hRR
          clear he1
          go_wp2_with (fail)
          exact bodyPost_ret (results_tmp5 rfl _ _ _) rfl ⟨rfl, hb⟩
end Go.Proofs.YtpdkpkabdkefcaaGreatDoor
