/- For the seat: texts joined: RqH, RqI, Enter. -/
import Derived.Test.YtpdkpkabdkefcaaGreatDoorJAl
import Derived.Test.YtpdkpkabdkefcaaGreatDoorJAj
import Derived.Test.YtpdkpkabdkefcaaGreatDoorJAm
import Derived.Test.YtpdkpkabdkefcaaGreatDoorCards
import Derived.Test.YtpdkpkabdkefcaaGreatDoorTie
set_option maxRecDepth 100000
namespace Go.Proofs.YtpdkpkabdkefcaaGreatDoor
open Go.Sx Go.ChangeShapes Go.WideShapes Go.RowKit Go.Joins Go.Deep Go.Rp
theorem condsF_len (c : Int) : ∀ (f : Nat) (m : Int) (l : List Int), condsF c f m = some l → l.length ≤ f
  | 0, m, l, h => by simp [condsF] at h; subst h; simp
  | f + 1, m, l, h => by
    rw [condsF] at h
    split at h
    · simp at h; subst h; simp
    split at h
    · rw [Option.map_eq_some_iff] at h
      obtain ⟨l', h1, rfl⟩ := h
      have := condsF_len c f _ l' h1
      simp; omega
    split at h
    · cases h
    · rw [Option.map_eq_some_iff] at h
      obtain ⟨l', h1, rfl⟩ := h
      have := condsF_len c f _ l' h1
      simp; omega
theorem condsP_len (c m : Int) : (condsP c m).length ≤ 5 := by
  unfold condsP
  split
  · simp
  · split
    · rename_i l h
      have := condsF_len c 4 m l h
      simp; omega
    · simp
theorem ite_len {c : Prop} [Decidable c] {a b : Bs} {n : Nat} (h1 : a.length ≤ n) (h2 : b.length ≤ n) : (if c then a else b).length ≤ n := by split <;> assumption
theorem operX_len {y : Lw} (h : y.ref.length ≤ 1000000) : (operX y).length ≤ 2000000 := by
  have h1 := regName_len y.rm
  have h2 := regName_len y.rd
  have h3 := regName_len y.rn
  have h4 := print_len y.ex
  have h5 := lastX_len (y := y)
  have h6 := regsP_len y.ls
  have h7 := condName_len y.ic
  unfold operX cm
  repeat' (with_reducible apply ite_len)
  all_goals (try simp)
  all_goals omega
section
variable {w : World} {y : Lw} {e0 e1 e2 e3 : Value}
set_option maxHeartbeats 8000000 in
theorem textl18 (K : Nat → Prop) (hx : ExAt w K y.ex (.agg #[e0, e1, e2, e3])) (hK : ∀ g, K g → g < w.heap.size) (hnm : y.ex.nms = true) (href : y.ref.length ≤ 1000000) :
    Calls Tryz.prog 97 #[lwV y e0 e1 e2 e3] w fun e w' => e = .returned (.string (tx (textX y))) ∧ Below w.heap.size w w' := by
  have hop : ∀ w', Below w.heap.size w w' → Calls Tryz.prog 135 #[lwV y e0 e1 e2 e3] w' fun e w'' => e = .returned (.string (tx (operX y))) ∧ Below w'.heap.size w' w'' := fun w' hb => operands18 K (hx.below hb hK) (fun g hg => Nat.lt_of_lt_of_le (hK g hg) hb.size) hnm href
  have hol := operX_len href
  have hR : textX y = if y.op < 1 ∨ 45 < y.op then [] else (opName y.op ++ (if y.op = 42 then (condsP y.ic y.im).tail.map (fun c => if c = y.ic then (116 : UInt8) else 101) else []) ++ (if y.s then [115] else []) ++ condName y.c ++ (if y.wd then [46, 119] else [])) ++ (if operX y = [] then [] else [32] ++ operX y) := rfl
  generalize textX y = R at hR
  generalize operX y = O at hop hol hR
  obtain ⟨lab, k, op, ic, rd, rn, rm, im, md, ls, s, c, ref, wd, sz, ex⟩ := y
  dsimp only at hx hop hol hR hnm href
  dsimp only [lwV, lwC] at hop ⊢
  clear hx hK hnm href
  have n1 := op06_name op
  have n2 := cond04_name c
  have n3 := conds04 ic im
  have l1 := opName_len op
  have l2 := condName_len c
  have l3 := condsP_len ic im
  generalize opName op = N at n1 l1 hR
  generalize condName c = C at n2 l2 hR
  generalize condsP ic im = L at n3 l3 hR
  have HR := Lib.hid hR
  clear hR
  obtain ⟨W, hW⟩ : ∃ W, W = w.alloc (.cells #[.string (tx lab), .int .i64 k, .int .i64 op, .int .i64 ic, .int .i64 rd, .int .i64 rn, .int .i64 rm, .int .i64 im, .int .i64 md, .int .i64 ls, .bool s, .int .i64 c, .string (tx ref), .bool wd, .int .i64 sz, e0, e1, e2, e3] 49) := ⟨_, rfl⟩
  have b0 : Below w.heap.size w W := by rw [hW]; exact (Below.refl _ _).alloc (Nat.le_refl _) _
  have hw0 : W.heap[w.heap.size]? = some (.cells #[.string (tx lab), .int .i64 k, .int .i64 op, .int .i64 ic, .int .i64 rd, .int .i64 rn, .int .i64 rm, .int .i64 im, .int .i64 md, .int .i64 ls, .bool s, .int .i64 c, .string (tx ref), .bool wd, .int .i64 sz, e0, e1, e2, e3] 49 (0, 0)) := by rw [hW]; exact heap_alloc_new w _
  have hs0 : W.heap.size = w.heap.size + 1 := by rw [hW]; simp
  have hC : ∀ w' : World, w'.heap[w.heap.size]? = W.heap[w.heap.size]? → w'.cell? ⟨w.heap.size, 2, none⟩ = some (.int .i64 op) ∧ w'.cell? ⟨w.heap.size, 3, none⟩ = some (.int .i64 ic) ∧ w'.cell? ⟨w.heap.size, 7, none⟩ = some (.int .i64 im) ∧ w'.cell? ⟨w.heap.size, 10, none⟩ = some (.bool s) ∧
      w'.cell? ⟨w.heap.size, 11, none⟩ = some (.int .i64 c) ∧ w'.cell? ⟨w.heap.size, 13, none⟩ = some (.bool wd) := fun w' h => by
    rw [hw0] at h
    simp [World.cell?, h]
  obtain ⟨d2, d3, d7, d10, d11, d13⟩ := hC W rfl
  go_enter Tryz.func97, Tryz.ntmps97
  cases a1 : decide (op < 1)
  rotate_left
  · have hR := HR.out
    rw [if_pos (.inl (of_decide_eq_true a1))] at hR
    subst hR
    go_wp2_with (fail)
    exact bodyPost_ret (results_tmp rfl _ _ _) rfl ⟨rfl, by rw [← hW]; exact b0⟩
  cases a2 : decide (45 < op)
  rotate_left
  · have hR := HR.out
    rw [if_pos (.inr (of_decide_eq_true a2))] at hR
    subst hR
    go_wp2_with (fail)
    exact bodyPost_ret (results_tmp rfl _ _ _) rfl ⟨rfl, by rw [← hW]; exact b0⟩
  have HR2 := Lib.hid (HR.out.trans (if_neg (fun h => h.elim (of_decide_eq_false a1) (of_decide_eq_false a2))))
  clear HR
  go_wp2_with (fail)
  try rw [← hW]
  clear hW
  ((with_reducible refine (n1 _).mono ?_); rintro e w1 ⟨rfl, hb1⟩)
  have k1 : w1.heap[w.heap.size]? = W.heap[w.heap.size]? := hb1.block _ (by omega)
  have b1 := b0.trans (hb1.mono b0.size)
  have hs1 : w.heap.size < w1.heap.size := by have := hb1.size; omega
  clear d2 d3 d7 d10 d11 d13 n1 a1 a2
  obtain ⟨d2, d3, d7, d10, d11, d13⟩ := hC w1 k1
  cases o42 : (op == 42)
  · have hR := HR2.out
    rw [if_neg (ne_of_beq_false o42)] at hR
    have hz : N.length ≤ 100 := by omega
    rw [List.append_nil] at hR
    cases eo : O.isEmpty
    rotate_left
    · have hO : O = [] := by simpa using eo
      rw [if_pos hO] at hR
      have HR := Lib.hid hR
      clear hR hO HR2
      cases s <;> cases wd
      all_goals
        have hR := HR.out
        clear HR
        go_wp2_with (fail)
        ((with_reducible refine (n2 _).mono ?_); rintro e w3 ⟨rfl, hb3⟩)
        have k3 : w3.heap[w.heap.size]? = W.heap[w.heap.size]? := (hb3.block _ (by omega)).trans k1
        have b3 := b1.trans (hb3.mono b1.size)
        obtain ⟨f2, f3, f7, f10, f11, f13⟩ := hC w3 k3
        have hop3 := hop w3 b3
        have hL := k3.trans hw0
        clear d2 d3 d7 d10 d11 d13
        go_wp2_with (first | (refine wpList_load_blk rfl 49 (.tmp 1) rfl w.heap.size (by rfl) _ hL _ Tryz.underlying49 rfl (by kernel_rfl) ?_) | fail)
        ((with_reducible refine hop3.mono ?_); rintro e w4 ⟨rfl, hb4⟩)
        go_wp2_with (fail)
        exact bodyPost_ret (results_tmp rfl _ _ _) rfl ⟨by simp only [Bool.false_eq_true, if_true, if_false, List.append_nil] at hR; rw [hR]; rfl, b3.trans (hb4.mono b3.size)⟩
    · have hO : O ≠ [] := by intro h; rw [h] at eo; exact absurd eo (by decide)
      rw [if_neg hO] at hR
      have HR := Lib.hid hR
      clear hR hO HR2
      cases s <;> cases wd
      all_goals
        have hR := HR.out
        clear HR
        go_wp2_with (fail)
        ((with_reducible refine (n2 _).mono ?_); rintro e w3 ⟨rfl, hb3⟩)
        have k3 : w3.heap[w.heap.size]? = W.heap[w.heap.size]? := (hb3.block _ (by omega)).trans k1
        have b3 := b1.trans (hb3.mono b1.size)
        obtain ⟨f2, f3, f7, f10, f11, f13⟩ := hC w3 k3
        have hop3 := hop w3 b3
        have hL := k3.trans hw0
        clear d2 d3 d7 d10 d11 d13
        go_wp2_with (first | (refine wpList_load_blk rfl 49 (.tmp 1) rfl w.heap.size (by rfl) _ hL _ Tryz.underlying49 rfl (by kernel_rfl) ?_) | fail)
        ((with_reducible refine hop3.mono ?_); rintro e w4 ⟨rfl, hb4⟩)
        go_wp2_with (fail)
        exact bodyPost_ret (results_tmp rfl _ _ _) rfl ⟨by simp only [Bool.false_eq_true, if_true, if_false, List.append_nil] at hR; rw [hR]; rfl, b3.trans (hb4.mono b3.size)⟩
  · have hR := HR2.out
    rw [if_pos (eq_of_beq o42)] at hR
    have HR3 := Lib.hid hR
    clear hR HR2
    go_wp2_with (fail)
    ((with_reducible refine (n3 _).mono ?_); rintro e w2 ⟨⟨A, cap, rfl, hsl, hat, _⟩, hb2⟩)
    have k2 : w2.heap[w.heap.size]? = W.heap[w.heap.size]? := (hb2.block _ (by have := b1.size; have := hb1.size; omega)).trans k1
    have b2 := b1.trans (hb2.mono b1.size)
    have hs2 : w.heap.size < w2.heap.size := by have := hb2.size; omega
    clear d2 d3 d7 d10 d11 d13 n3
    obtain ⟨d2, d3, d7, d10, d11, d13⟩ := hC w2 k2
    go_wp2_with (fail)
    go_loopw [3, 5] (fun v t wr => ∃ (i : Nat) (z : Bs), v = .string (tx z) ∧ t = .int .i64 i ∧ 1 ≤ i ∧ (i ≤ 1 ∨ i ≤ L.length) ∧ z.length ≤ 8 + i ∧ Hid (z ++ (L.drop i).map (fun c => if c = ic then (116 : UInt8) else 101) = N ++ L.tail.map (fun c => if c = ic then (116 : UInt8) else 101)) ∧ Below w2.heap.size w2 wr) (fun _ t _ => 10 - (intOf t).toNat)
    case atStart => exact ⟨1, N, rfl, rfl, by omega, by omega, by omega, Lib.hid (by rw [List.drop_one]), Below.refl _ _⟩
    case round =>
      obtain ⟨i, z, rfl, rfl, hi1, hi2, hzl, he, hbw⟩ := hrel
      have kw : wr.heap[w.heap.size]? = W.heap[w.heap.size]? := (hbw.block _ (by omega)).trans k2
      have bw := b2.trans (hbw.mono b2.size)
      have hsw : w.heap.size < wr.heap.size := by have := hbw.size; omega
      clear d2 d3 d7 d10 d11 d13
      obtain ⟨d2, d3, d7, d10, d11, d13⟩ := hC wr kw
      by_cases hlt : i < L.length
      · have u0 : decide ((i : Int) < (L.length : Int)) = true := decide_eq_true (by omega)
        obtain ⟨g, off, rfl, hg, hc⟩ := hat (by rintro rfl; simp at hlt)
        have hc0 : wr.cell? ⟨g, off + i, none⟩ = some (.int .i64 L[i]) := (hbw.cell (p := ⟨g, off + i, none⟩) hg).trans (hc i L[i] (by simp [hlt]))
        have hd : L.drop i = L[i] :: L.drop (i + 1) := List.drop_eq_getElem_cons hlt
        have hE := he.out
        clear he hc
        rw [hd, List.map_cons] at hE
        generalize hx : L[i] = x at hE hc0 hd
        cases ex : (x == ic)
        · rw [if_neg (ne_of_beq_false ex)] at hE
          have HE := Lib.hid hE
          clear hE hd hx
          go_wp2_with (fail)
          go_region_with (fail)
          all_goals (try go_wp2_with (fail))
          all_goals refine ⟨⟨i + 1, z ++ [101], rfl, by go_num, by omega, by omega, by simp; omega, Lib.hid (by rw [← HE.out]; simp), hbw.drew⟩, by simp [intOf]; omega⟩
        · rw [if_pos (eq_of_beq ex)] at hE
          have HE := Lib.hid hE
          clear hE hd hx
          go_wp2_with (fail)
          go_region_with (fail)
          all_goals (try go_wp2_with (fail))
          all_goals refine ⟨⟨i + 1, z ++ [116], rfl, by go_num, by omega, by omega, by simp; omega, Lib.hid (by rw [← HE.out]; simp), hbw.drew⟩, by simp [intOf]; omega⟩
      · have u0 : decide ((i : Int) < (L.length : Int)) = false := decide_eq_false (by omega)
        have hE := he.out
        rw [List.drop_eq_nil_of_le (by omega), List.map_nil, List.append_nil] at hE
        subst hE
        clear he
        have hR := HR3.out
        have hz : (N ++ L.tail.map (fun c => if c = ic then (116 : UInt8) else 101)).length ≤ 100 := by omega
        generalize N ++ L.tail.map (fun c => if c = ic then (116 : UInt8) else 101) = N2 at hR hz hzl
        cases eo : O.isEmpty
        rotate_left
        · have hO : O = [] := by simpa using eo
          rw [if_pos hO] at hR
          have HR := Lib.hid hR
          clear hR hO HR3
          cases s <;> cases wd
          all_goals
            have hR := HR.out
            clear HR
            go_wp2_with (fail)
            ((with_reducible refine (n2 _).mono ?_); rintro e w3 ⟨rfl, hb3⟩)
            have k3 : w3.heap[w.heap.size]? = W.heap[w.heap.size]? := (hb3.block _ (by omega)).trans kw
            have b3 := bw.trans (hb3.mono bw.size)
            obtain ⟨f2, f3, f7, f10, f11, f13⟩ := hC w3 k3
            have hop3 := hop w3 b3
            have hL := k3.trans hw0
            clear d2 d3 d7 d10 d11 d13
            go_wp2_with (first | (refine wpList_load_blk rfl 49 (.tmp 1) rfl w.heap.size (by rfl) _ hL _ Tryz.underlying49 rfl (by kernel_rfl) ?_) | fail)
            ((with_reducible refine hop3.mono ?_); rintro e w4 ⟨rfl, hb4⟩)
            go_wp2_with (fail)
            exact bodyPost_ret (results_tmp rfl _ _ _) rfl ⟨by simp only [Bool.false_eq_true, if_true, if_false, List.append_nil] at hR; rw [hR]; rfl, b3.trans (hb4.mono b3.size)⟩
        · have hO : O ≠ [] := by intro h; rw [h] at eo; exact absurd eo (by decide)
          rw [if_neg hO] at hR
          have HR := Lib.hid hR
          clear hR hO HR3
          cases s <;> cases wd
          all_goals
            have hR := HR.out
            clear HR
            go_wp2_with (fail)
            ((with_reducible refine (n2 _).mono ?_); rintro e w3 ⟨rfl, hb3⟩)
            have k3 : w3.heap[w.heap.size]? = W.heap[w.heap.size]? := (hb3.block _ (by omega)).trans kw
            have b3 := bw.trans (hb3.mono bw.size)
            obtain ⟨f2, f3, f7, f10, f11, f13⟩ := hC w3 k3
            have hop3 := hop w3 b3
            have hL := k3.trans hw0
            clear d2 d3 d7 d10 d11 d13
            go_wp2_with (first | (refine wpList_load_blk rfl 49 (.tmp 1) rfl w.heap.size (by rfl) _ hL _ Tryz.underlying49 rfl (by kernel_rfl) ?_) | fail)
            ((with_reducible refine hop3.mono ?_); rintro e w4 ⟨rfl, hb4⟩)
            go_wp2_with (fail)
            exact bodyPost_ret (results_tmp rfl _ _ _) rfl ⟨by simp only [Bool.false_eq_true, if_true, if_false, List.append_nil] at hR; rw [hR]; rfl, b3.trans (hb4.mono b3.size)⟩
end
end Go.Proofs.YtpdkpkabdkefcaaGreatDoor
namespace Go.Proofs.YtpdkpkabdkefcaaGreatDoor
open Go.Sx Go.ChangeShapes Go.WideShapes Go.RowKit Go.Joins Go.Deep Go.Rp
theorem textX_len {y : Lw} (h : y.ref.length ≤ 1000000) : (textX y).length ≤ 3000000 := by
  have h1 := opName_len y.op
  have h2 := condName_len y.c
  have h3 := condsP_len y.ic y.im
  have h4 := operX_len h
  have h5 : (itX y).length ≤ 5 := by
    unfold itX
    split
    · simp; omega
    · simp
  have h6 : ∀ (c : Prop) [Decidable c] (a : Bs) (n : Nat), a.length ≤ n → (if c then a else []).length ≤ n := fun c _ a n h => ite_len h (by simp)
  have h7 : ∀ (c : Prop) [Decidable c] (a : Bs) (n : Nat), a.length ≤ n → (if c then [] else a).length ≤ n := fun c _ a n h => ite_len (by simp) h
  unfold textX wordX
  refine h7 _ _ _ ?_
  have h8 := h6 (y.s = true) [115] 1 (by simp)
  have h9 := h6 (y.wd = true) [46, 119] 2 (by simp)
  have h10 := h7 (operX y = []) ([32] ++ operX y) 2000001 (by simp only [List.length_append, List.length_cons, List.length_nil]; omega)
  simp only [List.length_append]
  omega
theorem wpList_load_blkG {P : Program} {ops : Array Oper} {rest : List Oper} {op : Oper} {a : Act} {w : World} {Q : Exit → Act → World → Prop} (hw : Region.wanted op (yielded ops a.tmps) = true) (ty : TypeId) (x : Operand) (ho : op.op = .load ty x)
    (b : Nat) (hx : a.eval x = .pointer (some ⟨b, 0, none⟩)) (C : Array Value) {t : TypeId} {fr : Nat × Nat} (hb : w.heap[b]? = some (.cells C t fr)) (d : TypeDesc)
    (hu : P.underlying ty = some d) (hd : d.isRow = true) (hi : (P.info? ty).map (·.size) = some C.size)
    (h : wpList P ops Q rest (a.put op.dst (.agg C)) w) : wpList P ops Q (op :: rest) a w :=
  wpList_step fun K hK => by
    rw [if_pos hw]
    exact wp_load_mid ty x ho b 0 hx C.toList d (rangeAt_all hb) hu hd (by simpa using hi) (hK _ _ (by simpa using h))
section
variable {w : World} {y : Lw} {e0 e1 e2 e3 : Value}
set_option maxHeartbeats 8000000 in
theorem print18 (K : Nat → Prop) (hx : ExAt w K y.ex (.agg #[e0, e1, e2, e3])) (hK : ∀ g, K g → g < w.heap.size) (hnm : y.ex.nms = true) (href : y.ref.length ≤ 1000000) :
    Calls Tryz.prog 71 #[lwV y e0 e1 e2 e3] w fun e w' => e = .returned (.string (tx (printX y))) ∧ Below w.heap.size w w' := by
  have hR : printX y = match lineL (textX y) with
    | none => []
    | some T => if textX y = [] then [] else if (readLn T 0).2 = 0 ∧ (readLn T 0).1.beq y = true then textX y else [] := rfl
  generalize printX y = R at hR
  have HR := Lib.hid hR
  clear hR
  obtain ⟨W, hW⟩ : ∃ W, W = w.alloc (.cells (lwC y e0 e1 e2 e3) 49) := ⟨_, rfl⟩
  have b0 : Below w.heap.size w W := by rw [hW]; exact (Below.refl _ _).alloc (Nat.le_refl _) _
  have hw0 : W.heap[w.heap.size]? = some (.cells (lwC y e0 e1 e2 e3) 49 (0, 0)) := by rw [hW]; exact heap_alloc_new w _
  have hs0 : W.heap.size = w.heap.size + 1 := by rw [hW]; simp
  have ht := textl18 K (hx.below b0 hK) (fun g hg => Nat.lt_of_lt_of_le (hK g hg) b0.size) hnm href
  have hl := textX_len href
  generalize textX y = X at ht hl HR
  have hn := line16 X (by omega)
  subst hW
  dsimp only [lwV, lwC] at ht hw0 hs0 b0 ⊢
  go_enter Tryz.func71, Tryz.ntmps71
  go_wp2_with (first | (refine wpList_load_blk rfl 49 (.tmp 1) rfl w.heap.size (by rfl) _ hw0 _ Tryz.underlying49 rfl (by kernel_rfl) ?_) | fail)
  ((with_reducible refine ht.mono ?_); rintro e w1 ⟨rfl, hb1⟩)
  have k1 := (hb1.block w.heap.size (by omega)).trans hw0
  have b1 := b0.trans (hb1.mono b0.size)
  have hs1 : w.heap.size < w1.heap.size := by have := hb1.size; omega
  clear hw0 hs0 b0 hb1 ht
  go_wp2_with (fail)
  ((with_reducible refine (hn _).mono ?_); rintro e w2 ⟨hret, hb2⟩)
  have k2 := (hb2.block w.heap.size (by omega)).trans k1
  have b2 := b1.trans (hb2.mono b1.size)
  have hs2 : w.heap.size < w2.heap.size := by have := hb2.size; omega
  clear k1 b1 hs1 hb2 hn
  cases hT : lineL X with
  | none =>
    have hR := HR.out
    rw [hT] at hR hret
    obtain rfl := hR
    clear HR
    unfold TokRet at hret
    subst hret
    go_wp2_with (fail)
    exact bodyPost_ret (results_tmp rfl _ _ _) rfl ⟨rfl, b2⟩
  | some T =>
    have hR := HR.out
    rw [hT] at hR hret
    dsimp only at hR
    clear HR
    obtain ⟨h256, hT2⟩ := lineL_len hT
    unfold TokRet at hret
    obtain ⟨A, cap, rfl, _, hA⟩ := hret
    cases eX : X.isEmpty
    rotate_left
    · have : X = [] := by simpa using eX
      rw [if_pos this] at hR
      obtain rfl := hR
      go_wp2_with (fail)
      exact bodyPost_ret (results_tmp rfl _ _ _) rfl ⟨rfl, b2⟩
    · have : X ≠ [] := by intro h; rw [h] at eX; exact absurd eX (by decide)
      rw [if_neg this] at hR
      have HR := Lib.hid hR
      clear hR this hT
      have hrd := read18 T (by omega) (fun t ht => by have := (hT2 t ht).1; omega) A cap 0 (Nat.zero_le _) w2 hA
      unfold LinePost at hrd
      have z0 : ((0 : Nat) : Int) = 0 := rfl
      rw [z0] at hrd
      generalize readLn T 0 = L at hrd HR
      obtain ⟨z, er⟩ := L
      dsimp only [lwC] at hrd HR
      go_wp2_with (fail)
      ((with_reducible refine hrd.mono ?_); rintro e w3 ⟨f0, f1, f2, f3, rfl, hz, hb3⟩)
      obtain ⟨zo, zk, zs, zA, zq, zc, hC⟩ := hz.cells
      obtain ⟨rfl, rfl, rfl, rfl⟩ := agg4 hC
      clear hC
      have k3 := (hb3.block w.heap.size (by omega)).trans k2
      have b3 := b2.trans (hb3.mono b2.size)
      have hx3 := hx.below b3 hK
      have hK3 : ∀ g, K g → g < w3.heap.size := fun g hg => Nat.lt_of_lt_of_le (hK g hg) b3.size
      have hn4 := heap_alloc_new w3 (.cells lwZ 49)
      have hth4 := there_of hn4
      obtain ⟨W4, hW4⟩ : ∃ W4, Hid (W4 = (w3.alloc (.cells lwZ 49)).setCells w3.heap.size 0 (lwC z (.int .i64 zo) (.int .i64 zk) (.string (tx zs)) (.slice zA zq zc)).toList) := ⟨_, Lib.hid rfl⟩
      have b4 : Below w3.heap.size w3 W4 := by rw [hW4.out]; exact below_setCells ((Below.refl _ _).alloc (Nat.le_refl _) _) (Nat.le_refl _) _
      have hz4 : W4.heap[w3.heap.size]? = some (.cells (lwC z (.int .i64 zo) (.int .i64 zk) (.string (tx zs)) (.slice zA zq zc)) 49 (0, 0)) := by rw [hW4.out]; exact setCells_all hn4 (lwC z (.int .i64 zo) (.int .i64 zk) (.string (tx zs)) (.slice zA zq zc)).toList rfl
      have k4 := (b4.block w.heap.size (by have := hb3.size; omega)).trans k3
      have hsm := same18 z y (w := W4) (e0 := .int .i64 zo) (e1 := .int .i64 zk) (e2 := .string (tx zs)) (e3 := .slice zA zq zc) (f0 := e0) (f1 := e1) (f2 := e2) (f3 := e3) (fun q => q < w3.heap.size)
        (ExAt.keep (fun q hq => hq.2) (fun q hq => b4.block q hq.2) _ _ hz) (ExAt.keep hK3 (fun q hq => b4.block q (hK3 q hq)) _ _ hx3) (fun g hg => Nat.lt_of_lt_of_le hg b4.size)
      have b5 := b3.trans (b4.mono b3.size)
      clear b4 k3 k2 hx3 hK3 hb3 hn4
      dsimp only [lwV, lwC] at hsm hz4 k4
      generalize z.beq y = r at hsm HR
      cases u : (er == 0)
      · have u' : (er != 0) = true := by simpa using ne_of_beq_false u
        have hR := HR.out
        rw [if_neg (fun h => ne_of_beq_false u h.1)] at hR
        obtain rfl := hR
        clear HR
        go_wp2_with (refine wpList_allocW rfl (.cells lwZ 49) w3.heap.size rfl (alloc_line _ _ _ _ _ _) ?_; refine wpList_store_mid rfl 49 (.tmp 6) (.tmp 24) rfl w3.heap.size 0 (lwC z (.int .i64 zo) (.int .i64 zk) (.string (tx zs)) (.slice zA zq zc)) (by rfl) (by rfl) hth4 (by kernel_rfl) (lwC_one _ _ _ _ _ _ _) ?_; rw [← hW4.out])
        exact bodyPost_ret (results_tmp rfl _ _ _) rfl ⟨rfl, b5⟩
      · have u' : (er != 0) = false := by simpa using eq_of_beq u
        have hR := HR.out
        clear HR
        cases r
        · rw [if_neg (fun h => by cases h.2)] at hR
          obtain rfl := hR
          go_wp2_with (first
            | (refine wpList_allocW rfl (.cells lwZ 49) w3.heap.size rfl (alloc_line _ _ _ _ _ _) ?_; refine wpList_store_mid rfl 49 (.tmp 6) (.tmp 24) rfl w3.heap.size 0 (lwC z (.int .i64 zo) (.int .i64 zk) (.string (tx zs)) (.slice zA zq zc)) (by rfl) (by rfl) hth4 (by kernel_rfl) (lwC_one _ _ _ _ _ _ _) ?_; rw [← hW4.out])
            | (refine wpList_load_blkG (by rfl) 49 (.tmp 6) rfl w3.heap.size (by rfl) _ hz4 _ Tryz.underlying49 rfl (by kernel_rfl) ?_)
            | (refine wpList_load_blkG (by rfl) 49 (.tmp 1) rfl w.heap.size (by rfl) _ k4 _ Tryz.underlying49 rfl (by kernel_rfl) ?_)
            | fail)
          ((with_reducible refine hsm.mono ?_); rintro e w6 ⟨rfl, hb6⟩)
          go_wp2_with (fail)
          exact bodyPost_ret (results_tmp rfl _ _ _) rfl ⟨rfl, b5.trans (hb6.mono b5.size)⟩
        · rw [if_pos ⟨eq_of_beq u, rfl⟩] at hR
          subst hR
          go_wp2_with (first
            | (refine wpList_allocW rfl (.cells lwZ 49) w3.heap.size rfl (alloc_line _ _ _ _ _ _) ?_; refine wpList_store_mid rfl 49 (.tmp 6) (.tmp 24) rfl w3.heap.size 0 (lwC z (.int .i64 zo) (.int .i64 zk) (.string (tx zs)) (.slice zA zq zc)) (by rfl) (by rfl) hth4 (by kernel_rfl) (lwC_one _ _ _ _ _ _ _) ?_; rw [← hW4.out])
            | (refine wpList_load_blkG (by rfl) 49 (.tmp 6) rfl w3.heap.size (by rfl) _ hz4 _ Tryz.underlying49 rfl (by kernel_rfl) ?_)
            | (refine wpList_load_blkG (by rfl) 49 (.tmp 1) rfl w.heap.size (by rfl) _ k4 _ Tryz.underlying49 rfl (by kernel_rfl) ?_)
            | fail)
          ((with_reducible refine hsm.mono ?_); rintro e w6 ⟨rfl, hb6⟩)
          go_wp2_with (fail)
          exact bodyPost_ret (results_tmp rfl _ _ _) rfl ⟨rfl, b5.trans (hb6.mono b5.size)⟩
end
end Go.Proofs.YtpdkpkabdkefcaaGreatDoor
namespace Go.Proofs.YtpdkpkabdkefcaaGreatDoor
open Go
theorem pEnter : Tryz.prog.mayEnter = true := by kernel_rfl
theorem pLifts : Tryz.prog.liftsFinal = Rows.layoutMoreRow.lifted := by kernel_rfl
theorem pMake : Tryz.prog.make = some Rows.layoutMoreRow.make := by kernel_rfl
theorem pMain : Tryz.prog.mainIs = some (true, "54c126094c0137b721e371cda6b9b81e0c5c523a92dc8b3b199e772204328681".toList) := by kernel_rfl
theorem pLooks : false = Tryz.prog.looks [] := by kernel_rfl
end Go.Proofs.YtpdkpkabdkefcaaGreatDoor
