/- For the seat: texts joined: RqA, RqB, RqC. -/
import Derived.Test.YtpdkpkabdkefcaaGreatDoorJAg
import Derived.Test.YtpdkpkabdkefcaaGreatDoorJAb
import Derived.Test.YtpdkpkabdkefcaaGreatDoorJAh
set_option maxRecDepth 100000
namespace Go.Proofs.YtpdkpkabdkefcaaGreatDoor
open Go.Sx Go.ChangeShapes Go.WideShapes Go.RowKit Go.Joins Go.Deep Go.Rp
theorem turn04 (c : Int) (h0 : 0 ≤ c) (h1 : c ≤ 13) (w : World) : Calls Tryz.prog 96 #[.int .i64 c] w fun e w' => e = .returned (.int .i64 (if c % 2 = 0 then c + 1 else c - 1)) ∧ w' = w := by
  go_enter Tryz.func96, Tryz.ntmps96
  have a1 : decide (c < 0) = false := decide_eq_false (by omega)
  have a2 : decide (13 < c) = false := decide_eq_false (by omega)
  cases a3 : (c % 2 == 0)
  · rw [if_neg (ne_of_beq_false a3)]
    have w1 : IntKind.i64.wrap (c - 1) = c - 1 := by rw [IntWalk.i64_left]; unfold wrap64; omega
    go_wp2_with (fail)
    exact bodyPost_ret (results_tmp rfl _ _ _) rfl ⟨rfl, rfl⟩
  · rw [if_pos (eq_of_beq a3)]
    have w1 : IntKind.i64.wrap (c + 1) = c + 1 := by rw [IntWalk.i64_left]; unfold wrap64; omega
    go_wp2_with (fail)
    exact bodyPost_ret (results_tmp rfl _ _ _) rfl ⟨rfl, rfl⟩
def IntRet (B : Nat) (L : List Int) (e : Ending) (w : World) : Prop := ∃ A cap, e = .returned (.slice A L.length cap) ∧ RSl A L.length cap ∧ IAt w w.heap.size A L ∧ ∀ q o, A = some ⟨q, o, none⟩ → B ≤ q
theorem conds_step {c : Int} {f : Nat} {m : Int} {acc L : List Int} {x : Int} (hx : x = if decide (8 ≤ m) = (c % 2 == 1) then c else if c % 2 = 0 then c + 1 else c - 1) (h8 : m ≠ 8)
    (hn : decide (8 ≤ m) = (c % 2 == 1) ∨ c ≠ 14) (h : (match condsF c (f + 1) m with | some l => acc ++ l | none => []) = L) : (match condsF c f (m % 8 * 2) with | some l => (acc ++ [x]) ++ l | none => []) = L := by
  rw [← h, condsF, if_neg h8, hx]
  by_cases hq : decide (8 ≤ m) = (c % 2 == 1)
  · rw [if_pos hq, if_pos hq]
    cases condsF c f (m % 8 * 2) <;> simp
  · rw [if_neg hq, if_neg hq, if_neg (hn.resolve_left hq)]
    cases condsF c f (m % 8 * 2) <;> simp
theorem own_ints {w : World} {base : Nat} {t : TypeId} {v : Value} {l : List Int} (h : w.ownsRow base t 1 v l.length (encI l)) : ∃ A cap, v = .slice A l.length cap ∧ RSl A l.length cap ∧ IAt w w.heap.size A l ∧ ∀ q o, A = some ⟨q, o, none⟩ → base ≤ q := by
  have h' := h
  rcases h.2 with ⟨hv, h0⟩ | ⟨g, cap, cur, rfl, hb, hh, hcap, _, hs, ht⟩
  · obtain rfl := List.eq_nil_of_length_eq_zero h0
    exact ⟨none, 0, hv, .inl ⟨rfl, rfl, rfl⟩, IAt.nil _ _ _, fun _ _ e => by cases e⟩
  · exact ⟨_, _, rfl, .inr ⟨hcap, g, 0, rfl⟩, IAt.of_own h', fun q o e => by simp only [Option.some.injEq, Addr.mk.injEq, and_true] at e; omega⟩
def condsM (q : Int) : Nat := if q % 16 = 8 then 0 else if q % 8 = 4 then 1 else if q % 4 = 2 then 2 else 3
theorem condsM_lt {q : Int} (h1 : 1 ≤ q) (h2 : q ≤ 15) (h8 : q ≠ 8) : condsM (q % 8 * 2) < condsM q := by
  have h : q = 1 ∨ q = 2 ∨ q = 3 ∨ q = 4 ∨ q = 5 ∨ q = 6 ∨ q = 7 ∨ q = 9 ∨ q = 10 ∨ q = 11 ∨ q = 12 ∨ q = 13 ∨ q = 14 ∨ q = 15 := by omega
  rcases h with rfl | rfl | rfl | rfl | rfl | rfl | rfl | rfl | rfl | rfl | rfl | rfl | rfl | rfl <;> decide
set_option maxHeartbeats 4000000 in
theorem conds04 (c m : Int) (w : World) : Calls Tryz.prog 68 #[.int .i64 c, .int .i64 m] w fun e w' => IntRet w.heap.size (condsP c m) e w' ∧ Below w.heap.size w w' := by
  have hR : condsP c m = if c < 0 ∨ 14 < c ∨ m < 1 ∨ 15 < m then [] else match condsF c 4 m with | some l => c :: l | none => [] := rfl
  generalize condsP c m = R at hR
  have ht := turn04
  go_enter Tryz.func68, Tryz.ntmps68
  cases a1 : decide (c < 0)
  rotate_left
  · rw [if_pos (.inl (of_decide_eq_true a1))] at hR
    subst hR
    go_wp2_with (fail)
    exact bodyPost_ret (results_tmp rfl _ _ _) rfl ⟨⟨none, 0, rfl, .inl ⟨rfl, rfl, rfl⟩, IAt.nil _ _ _, fun q o h => by cases h⟩, Below.refl _ _⟩
  cases a2 : decide (14 < c)
  rotate_left
  · rw [if_pos (.inr (.inl (of_decide_eq_true a2)))] at hR
    subst hR
    go_wp2_with (fail)
    exact bodyPost_ret (results_tmp rfl _ _ _) rfl ⟨⟨none, 0, rfl, .inl ⟨rfl, rfl, rfl⟩, IAt.nil _ _ _, fun q o h => by cases h⟩, Below.refl _ _⟩
  cases a3 : decide (m < 1)
  rotate_left
  · rw [if_pos (.inr (.inr (.inl (of_decide_eq_true a3))))] at hR
    subst hR
    go_wp2_with (fail)
    exact bodyPost_ret (results_tmp rfl _ _ _) rfl ⟨⟨none, 0, rfl, .inl ⟨rfl, rfl, rfl⟩, IAt.nil _ _ _, fun q o h => by cases h⟩, Below.refl _ _⟩
  cases a4 : decide (15 < m)
  rotate_left
  · rw [if_pos (.inr (.inr (.inr (of_decide_eq_true a4))))] at hR
    subst hR
    go_wp2_with (fail)
    exact bodyPost_ret (results_tmp rfl _ _ _) rfl ⟨⟨none, 0, rfl, .inl ⟨rfl, rfl, rfl⟩, IAt.nil _ _ _, fun q o h => by cases h⟩, Below.refl _ _⟩
  have b1 := of_decide_eq_false a1
  have b2 := of_decide_eq_false a2
  have b3 := of_decide_eq_false a3
  have b4 := of_decide_eq_false a4
  rw [if_neg (by omega)] at hR
  have HR : Hid ((match condsF c 4 m with | some l => [c] ++ l | none => []) = R) := Lib.hid hR.symm
  clear hR
  obtain ⟨W, hW⟩ : ∃ W, W = w.alloc (.cells #[.int .i64 c] 3) := ⟨_, rfl⟩
  have hown0 : W.ownsRow w.heap.size 3 1 (.slice (some ⟨w.heap.size, 0, none⟩) 1 1) [c].length (encI [c]) := by
    rw [hW]
    exact World.ownsRow_lit w #[.int .i64 c] 1 (Nat.le_refl _) (by decide) rfl
  have hbW : Below w.heap.size w W := by rw [hW]; exact (Below.refl _ _).alloc (Nat.le_refl _) _
  go_wp2_with (rw [← hW])
  clear a1 a2 a3 a4
  go_loopw [1, 5] (fun t v wr => ∃ (f : Nat) (q : Int) (acc : List Int), t = .int .i64 q ∧ 1 ≤ q ∧ q ≤ 15 ∧ f ≤ 4 ∧ (1 ≤ f ∧ (f = 1 → q % 8 = 0) ∧ (f = 2 → q % 4 = 0) ∧ (f = 3 → q % 2 = 0)) ∧ acc.length + f ≤ 10 ∧ Hid ((match condsF c f q with | some l => acc ++ l | none => []) = R) ∧ wr.ownsRow w.heap.size 3 1 v acc.length (encI acc) ∧ Below w.heap.size w wr) (fun t _ _ => condsM (intOf t))
  case atStart => exact ⟨4, m, [c], rfl, by omega, by omega, by omega, ⟨by omega, fun h => by omega, fun h => by omega, fun h => by omega⟩, by simp, HR, hown0, hbW⟩
  case round =>
    obtain ⟨f, q, acc, rfl, hq1, hq2, hf4, hf, hac, he, hown, hb⟩ := hrel
    clear HR
    by_cases h8 : q = 8
    · subst h8
      have hE := he.out
      clear he
      obtain ⟨f, rfl⟩ : ∃ f', f = f' + 1 := ⟨f - 1, by omega⟩
      rw [condsF, if_pos rfl] at hE
      obtain rfl : acc = R := by simpa using hE
      clear hE
      obtain ⟨A, cap, rfl, h1, h2, h3⟩ := own_ints hown
      go_wp2_with fail
      exact bodyPost_ret (results_tmp rfl _ _ _) rfl ⟨⟨A, cap, rfl, h1, h2, h3⟩, hb⟩
    · have u8 : (q != 8) = true := by simpa using h8
      obtain ⟨f, rfl⟩ : ∃ f', f = f' + 1 := ⟨f - 1, by omega⟩
      have w1 : IntKind.i64.wrap (q % 8 * 2) = q % 8 * 2 := by rw [IntWalk.i64_left]; unfold wrap64; omega
      have hf' : 1 ≤ f ∧ (f = 1 → q % 8 * 2 % 8 = 0) ∧ (f = 2 → q % 8 * 2 % 4 = 0) ∧ (f = 3 → q % 8 * 2 % 2 = 0) := by
        refine ⟨?_, ?_, ?_, ?_⟩ <;> omega
      have hm := condsM_lt hq1 hq2 h8
      cases g1 : decide (8 ≤ q) <;> cases g2 : (c % 2 == 1)
      · have he2 := Lib.hid (conds_step (x := c) (by rw [g1, g2]; rfl) h8 (by rw [g1, g2]; exact .inl rfl) he.out)
        clear he
        go_wp2_with (at_builtin; refine app_int wr rfl _ _ rfl w.heap.size hb.size acc c (by omega) _ rfl ?_ _ rfl rfl ?_; exact hown; intro v2 w2 hown2 hb2)
        go_roundw
        case rel => exact ⟨f, q % 8 * 2, acc ++ [c], rfl, by omega, by omega, by omega, hf', by simp; omega, he2, hown2, hb.trans hb2⟩
        case measure => simpa [intOf, w1] using hm
      · cases g3 : (c == 14)
        · have n3 := ne_of_beq_false g3
          have he2 := Lib.hid (conds_step (x := if c % 2 = 0 then c + 1 else c - 1) (by rw [g1, g2]; exact (if_neg (show ¬ false = true by decide)).symm) h8 (.inr n3) he.out)
          clear he
          have ht1 := ht c (by omega) (by omega) wr
          generalize (if c % 2 = 0 then c + 1 else c - 1) = x at ht1 he2
          go_wp2_with (fail)
          ((with_reducible refine ht1.mono ?_); rintro e w5 ⟨rfl, rfl⟩)
          go_wp2_with (at_builtin; refine app_int w5 rfl _ _ rfl w.heap.size hb.size acc x (by omega) _ rfl ?_ _ rfl rfl ?_; exact hown; intro v2 w2 hown2 hb2)
          go_roundw
          case rel => exact ⟨f, q % 8 * 2, acc ++ [x], rfl, by omega, by omega, by omega, hf', by simp; omega, he2, hown2, hb.trans hb2⟩
          case measure => simpa [intOf, w1] using hm
        · have hE := he.out
          clear he
          rw [condsF, if_neg h8, g1, g2, if_neg (show ¬ false = true by decide), if_pos (eq_of_beq g3)] at hE
          subst hE
          go_wp2_with fail
          exact bodyPost_ret (results_tmp rfl _ _ _) rfl ⟨⟨none, 0, rfl, .inl ⟨rfl, rfl, rfl⟩, IAt.nil _ _ _, fun q o h => by cases h⟩, hb⟩
      · cases g3 : (c == 14)
        · have n3 := ne_of_beq_false g3
          have he2 := Lib.hid (conds_step (x := if c % 2 = 0 then c + 1 else c - 1) (by rw [g1, g2]; exact (if_neg (show ¬ true = false by decide)).symm) h8 (.inr n3) he.out)
          clear he
          have ht1 := ht c (by omega) (by omega) wr
          generalize (if c % 2 = 0 then c + 1 else c - 1) = x at ht1 he2
          go_wp2_with (fail)
          ((with_reducible refine ht1.mono ?_); rintro e w5 ⟨rfl, rfl⟩)
          go_wp2_with (at_builtin; refine app_int w5 rfl _ _ rfl w.heap.size hb.size acc x (by omega) _ rfl ?_ _ rfl rfl ?_; exact hown; intro v2 w2 hown2 hb2)
          go_roundw
          case rel => exact ⟨f, q % 8 * 2, acc ++ [x], rfl, by omega, by omega, by omega, hf', by simp; omega, he2, hown2, hb.trans hb2⟩
          case measure => simpa [intOf, w1] using hm
        · have hE := he.out
          clear he
          rw [condsF, if_neg h8, g1, g2, if_neg (show ¬ true = false by decide), if_pos (eq_of_beq g3)] at hE
          subst hE
          go_wp2_with fail
          exact bodyPost_ret (results_tmp rfl _ _ _) rfl ⟨⟨none, 0, rfl, .inl ⟨rfl, rfl, rfl⟩, IAt.nil _ _ _, fun q o h => by cases h⟩, hb⟩
      · have he2 := Lib.hid (conds_step (x := c) (by rw [g1, g2]; rfl) h8 (by rw [g1, g2]; exact .inl rfl) he.out)
        clear he
        go_wp2_with (at_builtin; refine app_int wr rfl _ _ rfl w.heap.size hb.size acc c (by omega) _ rfl ?_ _ rfl rfl ?_; exact hown; intro v2 w2 hown2 hb2)
        go_roundw
        case rel => exact ⟨f, q % 8 * 2, acc ++ [c], rfl, by omega, by omega, by omega, hf', by simp; omega, he2, hown2, hb.trans hb2⟩
        case measure => simpa [intOf, w1] using hm
end Go.Proofs.YtpdkpkabdkefcaaGreatDoor
namespace Go.Proofs.YtpdkpkabdkefcaaGreatDoor
open Go.Sx Go.ChangeShapes Go.WideShapes Go.RowKit Go.Joins Go.Deep Go.Rp
theorem has05 (L r : Int) (h0 : 0 ≤ r) (h1 : r ≤ 20) (w : World) : Calls Tryz.prog 179 #[.int .i64 L, .int .i64 r] w fun e w' => e = .returned (.bool (hasP L r)) ∧ w' = w := by
  have hR : hasP L r = (Go.bits Go.BinOp.and Go.IntKind.i64 (L / 2 ^ r.toNat) 1 == 1) := rfl
  skip
  go_enter Tryz.func179, Tryz.ntmps179
  go_wp2_with (fail)
  exact bodyPost_ret (results_tmp rfl _ _ _) rfl ⟨rfl, rfl⟩
theorem runR_ge (L : Int) : ∀ (f : Nat) (r : Int), r ≤ runR L f r
  | 0, r => Int.le_refl _
  | f + 1, r => by
    rw [runR]
    split
    · have := runR_ge L f (r + 1); omega
    · exact Int.le_refl _
theorem runR_le (L : Int) : ∀ (f : Nat) (r : Int), runR L f r ≤ r ∨ runR L f r ≤ 12
  | 0, r => .inl (Int.le_refl _)
  | f + 1, r => by
    rw [runR]
    split
    · rename_i h
      have := runR_le L f (r + 1); omega
    · exact .inl (Int.le_refl _)
set_option maxHeartbeats 4000000 in
theorem regs05 (L : Int) (w : World) : Calls Tryz.prog 166 #[.int .i64 L] w fun e w' => e = .returned (.string (tx (regsP L))) ∧ Below w.heap.size w w' := by
  have hR : regsP L = regsF L 17 0 [123] ++ [125] := rfl
  generalize regsP L = R at hR
  generalize hQ : regsF L 17 0 [123] = Q at hR
  have hh := has05
  have hn := reg05_name
  go_enter Tryz.func166, Tryz.ntmps166
  go_wp2_with (fail)
  go_loopw [3, 4] (fun s t wr => ∃ (f r : Nat) (z : Bs), s = .string (tx z) ∧ t = .int .i64 r ∧ r ≤ 16 ∧ 17 ≤ f + r ∧ z.length ≤ 1 + 20 * r ∧ Hid (regsF L f r z = Q) ∧ Below w.heap.size w wr) (fun _ t _ => 16 - (intOf t).toNat)
  case atStart => exact ⟨17, 0, [123], rfl, rfl, by omega, by omega, by simp, Lib.hid hQ, Below.refl _ _⟩
  case round =>
    obtain ⟨f, r, z, rfl, rfl, hr, hf, hzl, he, hb⟩ := hrel
    clear hQ
    by_cases hlt : r < 16
    · have u1 : decide ((r : Int) < 16) = true := decide_eq_true (by omega)
      obtain ⟨f, rfl⟩ : ∃ f', f = f' + 1 := ⟨f - 1, by omega⟩
      have hE := he.out
      clear he
      rw [regsF, if_neg (by omega)] at hE
      have hh1 := hh L r (by omega) (by omega)
      have n1 := hn r
      have l1 := regName_len r
      have l2 := regName_len (runR L 16 r)
      have hx1 := runR_ge L 16 r
      have hx2 := runR_le L 16 r
      generalize hX : runR L 16 r = X at hE hx1 hx2 l2
      have HX := Lib.hid hX
      clear hX
      cases a1 : hasP L r
      · rw [a1, if_pos rfl] at hE
        have HE := Lib.hid hE
        clear hE
        go_wp2_with (fail)
        ((with_reducible refine (hh1 _).mono ?_); rintro e w5 ⟨rfl, rfl⟩)
        go_wp2_with (fail)
        go_roundw
        case rel => exact ⟨f, r + 1, z, rfl, by go_num, by omega, by omega, by omega, HE, hb⟩
        case measure => simp [intOf]; omega
      · rw [a1, if_neg (by decide)] at hE
        cases a2 : (z == [123])
        · skip
          rw [if_neg (by simpa using a2)] at hE
          have HE := Lib.hid hE
          clear hE
          go_wp2_with (fail)
          ((with_reducible refine (hh1 _).mono ?_); rintro e w5 ⟨rfl, rfl⟩)
          go_wp2_with (fail)
          ((with_reducible refine (n1 _).mono ?_); rintro e w6 ⟨rfl, hb6⟩)
          have hb7 := hb.trans (hb6.mono hb.size)
          go_wp2_with (fail)
          go_loopw [5] (fun t wr => ∃ (g x : Nat), t = .int .i64 x ∧ r ≤ x ∧ (x ≤ r ∨ x ≤ 12) ∧ 16 + r ≤ g + x ∧ Hid (runR L g x = X) ∧ wr = w6) (fun t _ => 16 - (intOf t).toNat)
          case atStart => exact ⟨16, r, rfl, by omega, by omega, by omega, HX, rfl⟩
          case round =>
            obtain ⟨g, x, rfl, hx3, hx4, hg, hex, rfl⟩ := hrel
            obtain ⟨g, rfl⟩ : ∃ g', g = g' + 1 := ⟨g - 1, by omega⟩
            have hG := hex.out
            clear hex
            rw [runR] at hG
            have hh2 := hh L ((x : Int) + 1) (by omega) (by omega)
            have n2 := hn X
            have w1 : IntKind.i64.wrap ((x : Int) + 1) = (x : Int) + 1 := by rw [IntWalk.i64_left]; unfold wrap64; omega
            cases b1 : decide ((x : Int) < 12)
            · rw [if_neg (fun k => absurd k.1 (of_decide_eq_false b1))] at hG
              have HG := Lib.hid hG
              clear hG
              obtain rfl : (x : Int) = X := HG.out
              clear HX
              cases b3 : decide ((r : Int) < (x : Int))
              · have hnr : ¬ (r : Int) < (x : Int) := of_decide_eq_false b3
                have HE2 := HE.out
                rw [if_neg hnr, List.append_nil] at HE2
                obtain rfl : x = r := by omega
                go_wp2_with (fail)
                go_roundw
                case rel => exact ⟨f, x + 1, _, rfl, by go_num, by omega, by omega, by simp; omega, Lib.hid HE2, hb7⟩
                case measure => simp [intOf]; omega
              · have hnr : (r : Int) < (x : Int) := of_decide_eq_true b3
                have HE2 := HE.out
                rw [if_pos hnr] at HE2
                go_wp2_with (fail)
                ((with_reducible refine (n2 _).mono ?_); rintro e w8 ⟨rfl, hb8⟩)
                go_wp2_with (fail)
                go_roundw
                case rel => exact ⟨f, x + 1, _, rfl, by go_num, by omega, by omega, by simp; omega, Lib.hid HE2, hb7.trans (hb8.mono hb7.size)⟩
                case measure => simp [intOf]; omega
            · have hx12 := of_decide_eq_true b1
              cases b2 : hasP L ((x : Int) + 1)
              · rw [if_neg (fun k => by rw [b2] at k; exact absurd k.2 (by decide))] at hG
                have HG := Lib.hid hG
                clear hG
                go_wp2_with (fail)
                ((with_reducible refine (hh2 _).mono ?_); rintro e w9 ⟨rfl, rfl⟩)
                obtain rfl : (x : Int) = X := HG.out
                clear HX
                cases b3 : decide ((r : Int) < (x : Int))
                · have hnr : ¬ (r : Int) < (x : Int) := of_decide_eq_false b3
                  have HE2 := HE.out
                  rw [if_neg hnr, List.append_nil] at HE2
                  obtain rfl : x = r := by omega
                  go_wp2_with (fail)
                  go_roundw
                  case rel => exact ⟨f, x + 1, _, rfl, by go_num, by omega, by omega, by simp; omega, Lib.hid HE2, hb7⟩
                  case measure => simp [intOf]; omega
                · have hnr : (r : Int) < (x : Int) := of_decide_eq_true b3
                  have HE2 := HE.out
                  rw [if_pos hnr] at HE2
                  go_wp2_with (fail)
                  ((with_reducible refine (n2 _).mono ?_); rintro e w8 ⟨rfl, hb8⟩)
                  go_wp2_with (fail)
                  go_roundw
                  case rel => exact ⟨f, x + 1, _, rfl, by go_num, by omega, by omega, by simp; omega, Lib.hid HE2, hb7.trans (hb8.mono hb7.size)⟩
                  case measure => simp [intOf]; omega
              · rw [if_pos ⟨hx12, b2⟩] at hG
                have HG := Lib.hid hG
                clear hG
                go_wp2_with (fail)
                ((with_reducible refine (hh2 _).mono ?_); rintro e w9 ⟨rfl, rfl⟩)
                go_wp2_with (fail)
                go_roundw
                case rel => exact ⟨g, x + 1, by go_num, by omega, by omega, by omega, HG, by first | rfl | trivial⟩
                case measure => simp [intOf]; omega
        · skip
          rw [if_pos (by simpa using a2)] at hE
          have HE := Lib.hid hE
          clear hE
          go_wp2_with (fail)
          ((with_reducible refine (hh1 _).mono ?_); rintro e w5 ⟨rfl, rfl⟩)
          go_wp2_with (fail)
          ((with_reducible refine (n1 _).mono ?_); rintro e w6 ⟨rfl, hb6⟩)
          have hb7 := hb.trans (hb6.mono hb.size)
          go_wp2_with (fail)
          go_loopw [5] (fun t wr => ∃ (g x : Nat), t = .int .i64 x ∧ r ≤ x ∧ (x ≤ r ∨ x ≤ 12) ∧ 16 + r ≤ g + x ∧ Hid (runR L g x = X) ∧ wr = w6) (fun t _ => 16 - (intOf t).toNat)
          case atStart => exact ⟨16, r, rfl, by omega, by omega, by omega, HX, rfl⟩
          case round =>
            obtain ⟨g, x, rfl, hx3, hx4, hg, hex, rfl⟩ := hrel
            obtain ⟨g, rfl⟩ : ∃ g', g = g' + 1 := ⟨g - 1, by omega⟩
            have hG := hex.out
            clear hex
            rw [runR] at hG
            have hh2 := hh L ((x : Int) + 1) (by omega) (by omega)
            have n2 := hn X
            have w1 : IntKind.i64.wrap ((x : Int) + 1) = (x : Int) + 1 := by rw [IntWalk.i64_left]; unfold wrap64; omega
            cases b1 : decide ((x : Int) < 12)
            · rw [if_neg (fun k => absurd k.1 (of_decide_eq_false b1))] at hG
              have HG := Lib.hid hG
              clear hG
              obtain rfl : (x : Int) = X := HG.out
              clear HX
              cases b3 : decide ((r : Int) < (x : Int))
              · have hnr : ¬ (r : Int) < (x : Int) := of_decide_eq_false b3
                have HE2 := HE.out
                rw [if_neg hnr, List.append_nil] at HE2
                obtain rfl : x = r := by omega
                go_wp2_with (fail)
                go_roundw
                case rel => exact ⟨f, x + 1, _, rfl, by go_num, by omega, by omega, by simp; omega, Lib.hid HE2, hb7⟩
                case measure => simp [intOf]; omega
              · have hnr : (r : Int) < (x : Int) := of_decide_eq_true b3
                have HE2 := HE.out
                rw [if_pos hnr] at HE2
                go_wp2_with (fail)
                ((with_reducible refine (n2 _).mono ?_); rintro e w8 ⟨rfl, hb8⟩)
                go_wp2_with (fail)
                go_roundw
                case rel => exact ⟨f, x + 1, _, rfl, by go_num, by omega, by omega, by simp; omega, Lib.hid HE2, hb7.trans (hb8.mono hb7.size)⟩
                case measure => simp [intOf]; omega
            · have hx12 := of_decide_eq_true b1
              cases b2 : hasP L ((x : Int) + 1)
              · rw [if_neg (fun k => by rw [b2] at k; exact absurd k.2 (by decide))] at hG
                have HG := Lib.hid hG
                clear hG
                go_wp2_with (fail)
                ((with_reducible refine (hh2 _).mono ?_); rintro e w9 ⟨rfl, rfl⟩)
                obtain rfl : (x : Int) = X := HG.out
                clear HX
                cases b3 : decide ((r : Int) < (x : Int))
                · have hnr : ¬ (r : Int) < (x : Int) := of_decide_eq_false b3
                  have HE2 := HE.out
                  rw [if_neg hnr, List.append_nil] at HE2
                  obtain rfl : x = r := by omega
                  go_wp2_with (fail)
                  go_roundw
                  case rel => exact ⟨f, x + 1, _, rfl, by go_num, by omega, by omega, by simp; omega, Lib.hid HE2, hb7⟩
                  case measure => simp [intOf]; omega
                · have hnr : (r : Int) < (x : Int) := of_decide_eq_true b3
                  have HE2 := HE.out
                  rw [if_pos hnr] at HE2
                  go_wp2_with (fail)
                  ((with_reducible refine (n2 _).mono ?_); rintro e w8 ⟨rfl, hb8⟩)
                  go_wp2_with (fail)
                  go_roundw
                  case rel => exact ⟨f, x + 1, _, rfl, by go_num, by omega, by omega, by simp; omega, Lib.hid HE2, hb7.trans (hb8.mono hb7.size)⟩
                  case measure => simp [intOf]; omega
              · rw [if_pos ⟨hx12, b2⟩] at hG
                have HG := Lib.hid hG
                clear hG
                go_wp2_with (fail)
                ((with_reducible refine (hh2 _).mono ?_); rintro e w9 ⟨rfl, rfl⟩)
                go_wp2_with (fail)
                go_roundw
                case rel => exact ⟨g, x + 1, by go_num, by omega, by omega, by omega, HG, by first | rfl | trivial⟩
                case measure => simp [intOf]; omega
    · have u1 : decide ((r : Int) < 16) = false := decide_eq_false (by omega)
      obtain ⟨f, rfl⟩ : ∃ f', f = f' + 1 := ⟨f - 1, by omega⟩
      have hE := he.out
      clear he
      rw [regsF, if_pos (by omega)] at hE
      subst hE
      subst hR
      go_wp2_with (fail)
      exact bodyPost_ret (results_tmp rfl _ _ _) rfl ⟨rfl, hb⟩
end Go.Proofs.YtpdkpkabdkefcaaGreatDoor
namespace Go.Proofs.YtpdkpkabdkefcaaGreatDoor
open Go.Sx Go.ChangeShapes Go.WideShapes Go.RowKit Go.Joins Go.Deep Go.Rp
theorem print_len (x : Et) : x.print.length ≤ 40000 := by
  have hR : x.print = if x.parts 16 1000 < 0 then [] else x.text := rfl
  rw [hR]
  split
  · exact Nat.zero_le _
  · have := text_len x 16 1000 (by omega)
    omega
section
variable {w : World} {y : Lw} {e0 e1 e2 e3 : Value}
abbrev lwV (y : Lw) (e0 e1 e2 e3 : Value) : Value := .agg (lwC y e0 e1 e2 e3)
set_option maxHeartbeats 4000000 in
theorem lastx18 (K : Nat → Prop) (hx : ExAt w K y.ex (.agg #[e0, e1, e2, e3])) (hK : ∀ g, K g → g < w.heap.size) (hnm : y.ex.nms = true) :
    Calls Tryz.prog 165 #[lwV y e0 e1 e2 e3] w fun e w' => e = .returned (.string (tx (lastX y))) ∧ Below w.heap.size w w' := by
  have hR : lastX y = if y.md = 2 then regName y.rm else [35] ++ y.ex.print := rfl
  generalize lastX y = R at hR
  obtain ⟨W, hW⟩ : ∃ W, W = w.alloc (.cells (lwC y e0 e1 e2 e3) 49) := ⟨_, rfl⟩
  have b0 : Below w.heap.size w W := by rw [hW]; exact (Below.refl _ _).alloc (Nat.le_refl _) _
  have hw0 : W.heap[w.heap.size]? = some (.cells (lwC y e0 e1 e2 e3) 49 (0, 0)) := by rw [hW]; exact heap_alloc_new w _
  have hs0 : W.heap.size = w.heap.size + 1 := by rw [hW]; simp
  obtain ⟨d4, d8, d15, d16, d17, d18⟩ : W.cell? ⟨w.heap.size, 6, none⟩ = some (.int .i64 y.rm) ∧ W.cell? ⟨w.heap.size, 8, none⟩ = some (.int .i64 y.md) ∧
      W.cell? ⟨w.heap.size, 15, none⟩ = some e0 ∧ W.cell? ⟨w.heap.size, 16, none⟩ = some e1 ∧ W.cell? ⟨w.heap.size, 17, none⟩ = some e2 ∧ W.cell? ⟨w.heap.size, 18, none⟩ = some e3 := by
    simp [World.cell?, hw0]
  have hp := print17 y.ex _ W K (hx.below b0 hK) (fun g hg => Nat.lt_of_lt_of_le (hK g hg) b0.size) hnm
  have hl := print_len y.ex
  have hn := reg05_name y.rm
  generalize y.ex.print = X at hp hR hl
  clear hw0
  dsimp only [lwC] at hW
  cases e2' : (y.md == 2)
  · rw [if_neg (ne_of_beq_false e2')] at hR
    subst hR
    go_enter Tryz.func165, Tryz.ntmps165
    go_wp2_with (rw [← hW])
    ((with_reducible refine hp.mono ?_); rintro e w1 ⟨rfl, hb1⟩)
    go_wp2_with (fail)
    exact bodyPost_ret (results_tmp rfl _ _ _) rfl ⟨rfl, b0.trans (hb1.mono b0.size)⟩
  · rw [if_pos (eq_of_beq e2')] at hR
    subst hR
    go_enter Tryz.func165, Tryz.ntmps165
    go_wp2_with (rw [← hW])
    ((with_reducible refine (hn _).mono ?_); rintro e w1 ⟨rfl, hb1⟩)
    go_wp2_with (fail)
    exact bodyPost_ret (results_tmp rfl _ _ _) rfl ⟨rfl, b0.trans (hb1.mono b0.size)⟩
end
end Go.Proofs.YtpdkpkabdkefcaaGreatDoor
