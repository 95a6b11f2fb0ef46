/- For the seat: texts joined: MyJ, MyK, MyL. -/
import Derived.Test.YtpdkpkabdkefcaaGreatDoorJAn
import Derived.Test.YtpdkpkabdkefcaaGreatDoorJAo
import Derived.Lib.SliceRun
set_option maxRecDepth 100000
namespace Go.Proofs.YtpdkpkabdkefcaaGreatDoor
open Go.Sx Go.ChangeShapes Go.WideShapes Go.RowKit Go.Joins Go.Deep Go.Rp
def leftL : List Lw → List Int → List Int
  | [], left => left
  | y :: r, left => leftL r (stepC left y).2
theorem leftL_cons (y : Lw) (r : List Lw) (left : List Int) : leftL (y :: r) left = leftL r (stepC left y).2 := rfl
theorem condsF_ge (c : Int) (hc : 0 ≤ c) : ∀ (f : Nat) (m : Int) (l : List Int), condsF c f m = some l → ∀ x ∈ l, 0 ≤ x
  | 0, m, l, h => by simp [condsF] at h; subst h; simp
  | f + 1, m, l, h => by
    rw [condsF] at h
    split at h
    · simp at h; subst h; simp
    split at h
    · rw [Option.map_eq_some_iff] at h
      obtain ⟨l', h1, rfl⟩ := h
      have := condsF_ge c hc f _ l' h1
      intro x hx
      rcases List.mem_cons.1 hx with rfl | hx
      · exact hc
      · exact this x hx
    split at h
    · cases h
    · rw [Option.map_eq_some_iff] at h
      obtain ⟨l', h1, rfl⟩ := h
      have := condsF_ge c hc f _ l' h1
      intro x hx
      rcases List.mem_cons.1 hx with rfl | hx
      · split <;> omega
      · exact this x hx
theorem condsP_ge (c m : Int) : ∀ x ∈ condsP c m, 0 ≤ x := by
  unfold condsP
  split
  · simp
  · split
    · rename_i hc l h
      have := condsF_ge c (by omega) 4 m l h
      intro x hx
      rcases List.mem_cons.1 hx with rfl | hx
      · omega
      · exact this x hx
    · simp
theorem condsL_ge : ∀ (L : List Lw) (left : List Int), (∀ x ∈ left, -1 ≤ x) → ∀ x ∈ condsL L left, -1 ≤ x
  | [], _, _ => by simp [condsL]
  | y :: r, left, hl => by
    have h1 : -1 ≤ (stepC left y).1 ∧ ∀ x ∈ (stepC left y).2, -1 ≤ x := by
      unfold stepC
      split
      · exact ⟨Int.le_refl _, hl⟩
      · cases left with
        | cons c r => exact ⟨hl c (by simp), fun x hx => hl x (by simp [hx])⟩
        | nil =>
          dsimp only
          split
          · exact ⟨Int.le_refl _, fun x hx => by have := condsP_ge y.ic y.im x hx; omega⟩
          · exact ⟨Int.le_refl _, by simp⟩
    intro x hx
    rw [condsL_cons] at hx
    rcases List.mem_cons.1 hx with rfl | hx
    · exact h1.1
    · exact condsL_ge r _ h1.2 x hx
def AskRet (B : Nat) (R : List Int) (o : Bool) (e : Ending) (w : World) : Prop := ∃ A cap, e = .returned (.tuple #[.slice A R.length cap, .bool o]) ∧ RSl A R.length cap ∧ IAt w w.heap.size A R ∧ ∀ q o, A = some ⟨q, o, none⟩ → B ≤ q
set_option maxHeartbeats 8000000 in
theorem asked_b (L : List Lw) (hL : L.length ≤ 900000) (A : Option Addr) (cap : Nat) (w : World) (K : Nat → Prop) (hA : LsAt w K A L) (hK : ∀ g, K g → g < w.heap.size) :
    Calls Tryz.prog 52 #[.slice A L.length cap] w fun e w' => AskRet w.heap.size (condsL L []) (decide (0 < (leftL L []).length)) e w' ∧ Below w.heap.size w w' := by
  have hlen := condsL_len L []
  generalize hR : condsL L [] = R at hlen
  generalize hE : leftL L [] = E
  have HR := Lib.hid hR
  have HE := Lib.hid hE
  have HL := Lib.hid hlen
  clear hR hE hlen
  obtain ⟨i0, hi0, hz0, hz1, hz2⟩ := info_parts intInfo
  obtain ⟨W, hW⟩ : ∃ W, Hid (W = w.alloc (.cells (madeCells #[.int .i64 0] L.length) 3)) := ⟨_, Lib.hid rfl⟩
  have hrow0 : W.rowIs w.heap.size 3 L.length fun j => .int .i64 (if j < 0 then R.getD j 0 else 0) := by
    rw [hW.out]
    exact (World.rowIs_made w (.int .i64 0) L.length 3).congr fun j _ => by rw [if_neg (by omega)]
  have hbW : Below w.heap.size w W := by rw [hW.out]; exact (Below.refl _ _).alloc (Nat.le_refl _) _
  go_enter Tryz.func52, Tryz.ntmps52
  go_wp2_with (first | (refine wpList_make_row w rfl _ _ 26 rfl 3 i0 _ Tryz.underlying26 hi0 hz0 hz1 rfl .i64 .i64 L.length (by rfl) (by rfl) (by rw [hz2]; omega) (by omega) ?_; rw [← hW.out]) | fail)
  go_loopw [5, 13] (fun vl t wr => ∃ (i : Nat) (left : List Int) (A' : Option Addr) (c' : Nat), t = .int .i64 i ∧ i ≤ L.length ∧ left.length ≤ 5 ∧ left.length ≤ c' ∧ vl = .slice A' left.length c' ∧ IAt wr wr.heap.size A' left ∧
      (∀ q o, A' = some ⟨q, o, none⟩ → left ≠ [] → q ≠ w.heap.size) ∧ Hid (condsL (L.drop i) left = R.drop i) ∧ Hid (leftL (L.drop i) left = E) ∧ wr.rowIs w.heap.size 3 L.length (fun j => .int .i64 (if j < i then R.getD j 0 else 0)) ∧ Below w.heap.size w wr) (fun _ t _ => L.length - (intOf t).toNat)
  case atStart => exact ⟨0, [], none, 0, rfl, Nat.zero_le _, Nat.zero_le _, Nat.zero_le _, rfl, IAt.nil _ _ _, fun _ _ h => (by cases h), Lib.hid (by rw [List.drop_zero, List.drop_zero]; exact HR.out), Lib.hid (by rw [List.drop_zero]; exact HE.out), hrow0, hbW⟩
  case round =>
    obtain ⟨i, left, A', c', rfl, hi, hl5, hlc, rfl, hat, hsep, he, hx, hrow, hb⟩ := hrel
    clear HR HE hrow0 hbW
    by_cases hlt : i < L.length
    · have u0 : decide ((i : Int) < (L.length : Int)) = true := decide_eq_true (by omega)
      obtain ⟨g, off, o, n, s, A2, m, c, rfl, hgl, hok, hline⟩ := hA.line hK hlt
      have hl0 := (hline wr hb).1
      have hd : L.drop i = L[i] :: L.drop (i + 1) := List.drop_eq_getElem_cons hlt
      have hdR : R.drop i = R[i]'(by rw [HL.out]; exact hlt) :: R.drop (i + 1) := List.drop_eq_getElem_cons (by rw [HL.out]; exact hlt)
      have hgR : R.getD i 0 = R[i]'(by rw [HL.out]; exact hlt) := by rw [List.getD_eq_getElem?_getD, List.getElem?_eq_getElem (by rw [HL.out]; exact hlt)]; rfl
      have hE := he.out
      have hX := hx.out
      rw [hd, condsL_cons, hdR, List.cons.injEq] at hE
      rw [hd, leftL_cons] at hX
      obtain ⟨hE1, hE2⟩ := hE
      rw [← hgR] at hE1
      clear he hx hline hd hdR hgR
      generalize L[i] = y at hl0 hE1 hE2 hX
      obtain ⟨V, hV, bV, sV, hzV, hth⟩ := line_copy wr y o n s A2 m c
      obtain ⟨_, q1, q2, q3, q4, q7, q11, q12, q13, q14⟩ := line_cells hzV
      have hins := ins_b y (.int .i64 o) (.int .i64 n) (.string (tx s)) (.slice A2 m c)
      have hS : stepC left y = if insB y = false then (-1, left) else match left with | c :: r => (c, r) | [] => if begB y then (-1, condsP y.ic y.im) else (-1, []) := rfl
      have hB : begB y = ((y.k == 1) && (y.op == 42)) := rfl
      have hI : insB y = ((y.k == 1) || (y.k == 2)) := rfl
      generalize insB y = bi at hins hS hI
      generalize begB y = bb at hB hS
      generalize stepC left y = st at hS hE1 hE2 hX
      have HE1 := Lib.hid hE1
      have HE2 := Lib.hid hE2
      have HX := Lib.hid hX
      have HS := Lib.hid hS
      have HB := Lib.hid hB
      have HI := Lib.hid hI
      clear hE1 hE2 hX hS hB hI
      have rowV := hrow.of_block (bV.block w.heap.size hrow.lt)
      have bWV := hb.trans (bV.mono hb.size)
      have hne : w.heap.size ≠ wr.heap.size := by have := hrow.lt; omega
      have fz := rowV.frozen i
      have cz := rowV.cell hlt
      rw [if_neg (Nat.lt_irrefl i)] at cz
      have row1 := rowV.set i (.int .i64 (-1))
      have b1 := bWV.setCell (p := ⟨w.heap.size, i, none⟩) (Nat.le_refl _) (.int .i64 (-1))
      have hz1' : (V.setCell ⟨w.heap.size, i, none⟩ (.int .i64 (-1))).heap[wr.heap.size]? = some (.cells (lwX y o n s A2 m c) 49 (0, 0)) := (Below.heap_setCell _ _ _ _ (by show wr.heap.size ≠ w.heap.size; omega)).trans hzV
      have sW : (V.setCell ⟨w.heap.size, i, none⟩ (.int .i64 (-1))).heap.size = wr.heap.size + 1 := by simp [World.setCell]; exact sV
      obtain ⟨U, hU⟩ : ∃ U, Hid (U = V.setCell ⟨w.heap.size, i, none⟩ (.int .i64 (-1))) := ⟨_, Lib.hid rfl⟩
      rw [← hU.out] at row1 b1 hz1' sW
      have insU := hins U
      dsimp only [lwX, lwV, lwC] at hl0 hz1' hins insU
      clear hrow rowV hins
      go_wp2_with (first | (refine wpList_load_row rfl 49 (.tmp 16) rfl g (off + i * 19) (by rfl) _ hl0 _ Tryz.underlying49 rfl (by kernel_rfl) ?_) | (refine wpList_allocW rfl (.cells lwZ 49) wr.heap.size rfl (alloc_line _ _ _ _ _ _) ?_) | (refine wpList_store_mid rfl 49 (.tmp 7) (.tmp 17) rfl wr.heap.size 0 (lwX y o n s A2 m c) (by rfl) (by rfl) hth (by kernel_rfl) (lwC_one _ _ _ _ _ _ _) ?_; rw [← hV.out]) | rw [← hU.out] | (refine wpList_load_blk rfl 49 (.tmp 7) rfl wr.heap.size (by rfl) _ hz1' _ Tryz.underlying49 rfl (by kernel_rfl) ?_) | fail)
      ((with_reducible refine insU.mono ?_); rintro e w5 ⟨rfl, hb5⟩)
      have b5 := b1.trans (hb5.mono b1.size)
      have row5 := row1.of_block (hb5.block w.heap.size row1.lt)
      have hz5 := (hb5.block wr.heap.size (by rw [sW]; exact Nat.lt_succ_self _)).trans hz1'
      have at5 : IAt w5 w5.heap.size A' left := by
        intro hne
        obtain ⟨q, o1, h1, h2, h3⟩ := hat hne
        refine ⟨q, o1, h1, by have := hb5.size; omega, fun j a ha => ?_⟩
        have hq1 : q ≠ w.heap.size := hsep q o1 h1 hne
        rw [hb5.cell (p := ⟨q, o1 + j, none⟩) (by show q < _; omega), hU.out, World.cell?_of_block (w := V) (Below.heap_setCell _ _ _ _ (by show q ≠ w.heap.size; exact hq1)), bV.cell (p := ⟨q, o1 + j, none⟩) h2]
        exact h3 j a ha
      have hs5 := hb5.size
      have fz5 := row5.frozen i
      have cz5 := row5.cell hlt
      rw [if_pos rfl] at cz5
      have HU5 := Lib.hid hs5
      clear insU hl0 hz1' row1 b1 cz fz hat hU hV hth q1 q2 q3 q4 q7 q11 q12 q13 q14 hzV bV bWV hb hb5
      obtain ⟨_, p1, p2, p3, p4, p7, _, _, _, _⟩ := line_cells hz5
      cases bi
      · have hst : st = (-1, left) := HS.out.trans (if_pos rfl)
        subst hst
        have rowX := row_keep row5 HE1.out.symm
        clear row5 HS HB HI
        go_wp2_with (fail)
        go_roundw
        case rel => exact ⟨i + 1, left, A', c', by go_num, by omega, hl5, hlc, rfl, at5, hsep, HE2, HX, rowX, b5⟩
        case measure => simp [intOf]; omega
      · cases left with
        | cons c r =>
          have hst : st = (c, r) := HS.out.trans (if_neg (by decide))
          subst hst
          clear HS HB HI
          obtain ⟨q0, o0, rfl, hq0, hcc0⟩ := at5 (by simp)
          have c0 : w5.cell? ⟨q0, o0, none⟩ = some (.int .i64 c) := by simpa using hcc0 0 c rfl
          have sep0 : q0 ≠ w.heap.size := hsep q0 o0 rfl (by simp)
          have hlr : r.length + 1 ≤ c' := hlc
          have hl5r : r.length ≤ 5 := by have : r.length + 1 ≤ 5 := hl5; omega
          have rowX := row_again row5 HE1.out.symm
          have b6 := b5.setCell (p := ⟨w.heap.size, i, none⟩) (Nat.le_refl _) (.int .i64 c)
          obtain ⟨w6, hW6⟩ : ∃ w6, Hid (w6 = w5.setCell ⟨w.heap.size, i, none⟩ (.int .i64 c)) := ⟨_, Lib.hid rfl⟩
          have at6 : ∀ o1, (r ≠ [] → o1 = o0 + 1) → IAt w6 w6.heap.size (some ⟨q0, o1, none⟩) r := fun o1 ho hne => ⟨q0, o1, rfl, by rw [hW6.out]; simpa [World.setCell] using hq0, fun j a ha => by
            rw [ho hne, Nat.add_assoc, hW6.out, World.cell?_of_block (w := w5) (Below.heap_setCell _ _ _ _ (by show q0 ≠ w.heap.size; exact sep0))]
            exact hcc0 (1 + j) a (by rw [Nat.add_comm 1 j]; simpa using ha)⟩
          have sep6 : ∀ o1 q o, (some ⟨q0, o1, none⟩ : Option Addr) = some ⟨q, o, none⟩ → r ≠ [] → q ≠ w.heap.size := fun o1 q o e _ => by
            simp only [Option.some.injEq, Addr.mk.injEq, and_true] at e
            rw [← e.1]; exact sep0
          have hpos : decide ((0 : Int) < ((r.length : Int) + 1)) = true := decide_eq_true (by omega)
          rw [← hW6.out] at rowX b6
          clear at5 hsep hcc0 row5
          by_cases hc1 : c' = 1
          · have hr0 : r = [] := List.eq_nil_of_length_eq_zero (by omega)
            have at7 : IAt w6.drew w6.drew.heap.size (some ⟨q0, o0, none⟩) r := at6 o0 (fun h => absurd hr0 h)
            have sep7 := sep6 o0
            have row7 := rowX.drew
            have b7 := b6.drew
            clear at6 sep6 rowX b6
            go_wp2_with (fail)
            go_region_with (fail)
            all_goals rw [← hW6.out]
            all_goals go_wp2_with (fail)
            all_goals go_roundw
            all_goals first
              | exact ⟨i + 1, r, (some ⟨q0, o0, none⟩), (c' - 1), by go_num, by omega, hl5r, by omega, by first | rfl | (simp; done) | (simp; omega), at7, sep7, HE2, HX, row7, b7⟩
              | (simp [intOf]; omega)
          · skip
            have at7 : IAt w6.drew w6.drew.heap.size (some ⟨q0, o0 + 1, none⟩) r := at6 (o0 + 1) (fun _ => rfl)
            have sep7 := sep6 (o0 + 1)
            have row7 := rowX.drew
            have b7 := b6.drew
            clear at6 sep6 rowX b6
            go_wp2_with (fail)
            go_region_with (fail)
            all_goals rw [← hW6.out]
            all_goals go_wp2_with (fail)
            all_goals go_roundw
            all_goals first
              | exact ⟨i + 1, r, (some ⟨q0, o0 + 1, none⟩), (c' - 1), by go_num, by omega, hl5r, by omega, by first | rfl | (simp; done) | (simp; omega), at7, sep7, HE2, HX, row7, b7⟩
              | (simp [intOf]; omega)
        | nil =>
          clear at5 hsep
          cases a1 : (y.k == 1)
          · have hbb : bb = false := by rw [HB.out, a1]; rfl
            subst hbb
            have hst : st = (-1, []) := HS.out.trans (if_neg (by decide))
            subst hst
            have rowX := row_keep row5 HE1.out.symm
            clear row5 HS HB HI
            go_wp2_with (fail)
            go_roundw
            case rel => exact ⟨i + 1, [], A', c', by go_num, by omega, hl5, hlc, rfl, IAt.nil _ _ _, fun _ _ _ h => absurd rfl h, HE2, HX, rowX, b5⟩
            case measure => simp [intOf]; omega
          · cases a2 : (y.op == 42)
            · have hbb : bb = false := by rw [HB.out, a1, a2]; rfl
              subst hbb
              have hst : st = (-1, []) := HS.out.trans (if_neg (by decide))
              subst hst
              have rowX := row_keep row5 HE1.out.symm
              clear row5 HS HB HI
              go_wp2_with (fail)
              go_roundw
              case rel => exact ⟨i + 1, [], A', c', by go_num, by omega, hl5, hlc, rfl, IAt.nil _ _ _, fun _ _ _ h => absurd rfl h, HE2, HX, rowX, b5⟩
              case measure => simp [intOf]; omega
            · have hbb : bb = true := by rw [HB.out, a1, a2]; rfl
              subst hbb
              have hst : st = (-1, condsP y.ic y.im) := HS.out.trans (if_neg (by decide))
              subst hst
              have rowX := row_keep row5 HE1.out.symm
              have hcd := conds_04 y.ic y.im w5
              unfold IntRet at hcd
              have hcl := condsP_len' y.ic y.im
              clear row5 HS HB HI
              generalize condsP y.ic y.im = Q at hcd hcl HE2 HX
              go_wp2_with (fail)
              ((with_reducible refine hcd.mono ?_); rintro e w7 ⟨⟨A7, c7, rfl, hsl7, hat7, hq7⟩, hb7⟩)
              have hc7 : Q.length ≤ c7 := by
                rcases hsl7 with h | h
                · omega
                · exact h.1
              have row7 := rowX.of_block (hb7.block w.heap.size rowX.lt)
              have b7 := b5.trans (hb7.mono b5.size)
              have sep7 : ∀ q o, A7 = some ⟨q, o, none⟩ → Q ≠ [] → q ≠ w.heap.size := fun q o h _ => by
                have h1 := hq7 q o h
                have h2 := rowX.lt
                omega
              clear hsl7 hq7 hcd rowX
              go_wp2_with (fail)
              go_roundw
              case rel => exact ⟨i + 1, Q, A7, c7, by go_num, by omega, hcl, hc7, rfl, hat7, sep7, HE2, HX, row7, b7⟩
              case measure => simp [intOf]; omega
    · obtain rfl : i = L.length := by omega
      have u0 : decide ((L.length : Int) < (L.length : Int)) = false := decide_eq_false (by omega)
      have hX := hx.out
      rw [List.drop_eq_nil_of_le (Nat.le_refl _), leftL] at hX
      subst hX
      have rowX : wr.rowIs w.heap.size 3 L.length (fun j => .int .i64 (R.getD j 0)) := hrow.congr fun j hj => by rw [if_pos hj]
      have hret := intRet_row (B := w.heap.size) R HL.out rowX (Nat.le_refl _)
      clear he hx hat hsep hrow rowX
      go_wp2_with fail
      refine bodyPost_ret (results_tmp2 rfl _ _ _) rfl ⟨?_, hb⟩
      obtain ⟨A0, c0, e0, h1, h2, h3⟩ := hret
      simp only [Ending.returned.injEq, Value.slice.injEq] at e0
      obtain ⟨rfl, _, rfl⟩ := e0
      exact ⟨_, _, by rw [HL.out]; rfl, h1, h2, h3⟩
set_option maxHeartbeats 8000000 in
theorem inside_b (L : List Lw) (hL : L.length ≤ 900000) (A : Option Addr) (cap : Nat) (w : World) (K : Nat → Prop) (hA : LsAt w K A L) (hK : ∀ g, K g → g < w.heap.size) :
    Calls Tryz.prog 22 #[.slice A L.length cap] w fun e w' => BoolsRet w.heap.size (insideL L) e w' ∧ Below w.heap.size w w' := by
  have hc := asked_b L hL A cap w K hA hK
  unfold AskRet at hc
  have hcl := condsL_len L []
  have hm := condsL_ge L [] (by simp)
  have hR : insideL L = (condsL L []).map fun c => decide (0 ≤ c) := rfl
  generalize insideL L = R at hR
  generalize condsL L [] = C at hc hcl hm hR
  have HR := Lib.hid hR
  have HC := Lib.hid hcl
  have HM := Lib.hid hm
  clear hR hA hK hm
  obtain ⟨i0, hi0, hz0, hz1, hz2⟩ := info_parts booInfo
  go_enter Tryz.func22, Tryz.ntmps22
  go_wp2_with (fail)
  ((with_reducible refine hc.mono ?_); rintro e w1 ⟨⟨A1, c1, rfl, _, hat, hq1⟩, hb1⟩)
  clear hc
  rw [hcl]
  obtain ⟨W, hW⟩ : ∃ W, Hid (W = w1.alloc (.cells (madeCells #[.bool false] L.length) 4)) := ⟨_, Lib.hid rfl⟩
  have hrow0 : W.rowIs w1.heap.size 4 L.length fun j => .bool (if j < 0 then R.getD j false else false) := by
    rw [hW.out]
    exact (World.rowIs_made w1 (.bool false) L.length 4).congr fun j _ => by rw [if_neg (by omega)]
  have hbW : Below w1.heap.size w1 W := by rw [hW.out]; exact (Below.refl _ _).alloc (Nat.le_refl _) _
  go_wp2_with (first | (refine wpList_make_row w1 rfl _ _ 38 rfl 4 i0 _ Tryz.underlying38 hi0 hz0 hz1 rfl .i64 .i64 L.length (by rfl) (by rfl) (by rw [hz2]; omega) (by omega) ?_; rw [← hW.out]) | fail)
  go_loopw [17] (fun t wr => ∃ i : Nat, t = .int .i64 i ∧ i ≤ L.length ∧ wr.rowIs w1.heap.size 4 L.length (fun j => .bool (if j < i then R.getD j false else false)) ∧ Below w1.heap.size w1 wr) (fun t _ => L.length - (intOf t).toNat)
  case atStart => exact ⟨0, rfl, Nat.zero_le _, hrow0, hbW⟩
  case round =>
    obtain ⟨i, rfl, hi, hrow, hb⟩ := hrel
    clear hrow0 hbW
    by_cases hlt : i < L.length
    · have u0 : decide ((i : Int) < (L.length : Int)) = true := decide_eq_true (by omega)
      have hlc : i < C.length := by rw [HC.out]; exact hlt
      obtain ⟨g, off, rfl, hg, hcc⟩ := hat (by rintro rfl; simp at hlc)
      have c0 : wr.cell? ⟨g, off + i, none⟩ = some (.int .i64 C[i]) := (hb.cell (p := ⟨g, off + i, none⟩) hg).trans (hcc i C[i] (by simp [hlc]))
      have hge := HM.out C[i] (List.getElem_mem hlc)
      have hv : R.getD i false = (C[i] != -1) := by
        rw [HR.out, List.getD_eq_getElem?_getD, List.getElem?_map, List.getElem?_eq_getElem hlc]
        simp only [Option.map_some, Option.getD_some]
        by_cases h : C[i] = -1
        · rw [h]; rfl
        · rw [decide_eq_true (by omega)]; simpa using h
      have row1 := row_putB hrow hv
      have b1 := hb.setCell (p := ⟨w1.heap.size, i, none⟩) (Nat.le_refl _) (.bool (C[i] != -1))
      have fz := hrow.frozen i
      have cz := hrow.cell hlt
      rw [if_neg (Nat.lt_irrefl i)] at cz
      obtain ⟨w2, hW2⟩ : ∃ w2, Hid (w2 = wr.setCell ⟨w1.heap.size, i, none⟩ (.bool (C[i] != -1))) := ⟨_, Lib.hid rfl⟩
      rw [← hW2.out] at row1 b1
      generalize C[i] = x at c0 hW2
      clear hrow hcc hge hv
      go_wp2_with (first | rw [← hW2.out] | fail)
      go_roundw
      case rel => exact ⟨i + 1, by go_num, by omega, row1, b1⟩
      case measure => simp [intOf]; omega
    · obtain rfl : i = L.length := by omega
      have u0 : decide ((L.length : Int) < (L.length : Int)) = false := decide_eq_false (by omega)
      have rowX : wr.rowIs w1.heap.size 4 L.length (fun j => .bool (R.getD j false)) := hrow.congr fun j hj => by rw [if_pos hj]
      have hret := boolsRet_row (B := w.heap.size) R (by rw [HR.out, List.length_map, HC.out]) rowX hb1.size
      clear hat hrow rowX
      go_wp2_with fail
      refine bodyPost_ret (results_tmp rfl _ _ _) rfl ?_
      exact ⟨hret, hb1.trans (hb.mono hb1.size)⟩
end Go.Proofs.YtpdkpkabdkefcaaGreatDoor
namespace Go.Proofs.YtpdkpkabdkefcaaGreatDoor
open Go.Sx Go.ChangeShapes Go.WideShapes Go.RowKit Go.Joins Go.Deep Go.Rp
theorem run_clear0 (w : World) (t e ty : TypeId) (ht : Tryz.prog.underlying t = some (.slice e)) (a : Option Addr) (c : Nat) :
    (Builtin.clear_ #[t] ty #[.slice a 0 c]).run Tryz.prog w = .ok (.tuple #[]) w := by
  cases a <;> simp [Builtin.clear_, run_underlying ht]
theorem wpList_clear_row (W : World) {ops : Array Oper} {rest : List Oper} {o : Oper} {a : Act} {Q : Exit → Act → World → Prop} (hgd : o.guard = none) (s : Operand)
    (ho : o.op = .call { callee := .builtin .clear, args := #[s], argTypes := #[26] }) (b n : Nat) (hs : a.eval s = .slice (some ⟨b, 0, none⟩) n n) (hrow : W.rowIs b 3 n fun _ => .int .i64 0)
    (h : ∀ W', W'.rowIs b 3 n (fun _ => .int .i64 0) → Below b W W' → wpList Tryz.prog ops Q rest (a.put o.dst (.tuple #[])) W') : wpList Tryz.prog ops Q (o :: rest) a W := by
  have hz : ∀ w, (zeroValue 3).run Tryz.prog w = .ok (.int .i64 0) w := fun w => by kernel_rfl
  obtain ⟨W', hr, h1, h2⟩ : ∃ W', (Builtin.clear_ #[26] o.type #[.slice (some ⟨b, 0, none⟩) n n]).run Tryz.prog W = .ok (.tuple #[]) W' ∧ W'.rowIs b 3 n (fun _ => .int .i64 0) ∧ Below b W W' := by
    by_cases hn : n = 0
    · subst hn
      exact ⟨W, run_clear0 W _ _ _ Tryz.underlying26 _ _, hrow, Below.refl _ _⟩
    · refine ⟨_, Go.Lib.run_clear_slice W 26 3 _ (.int .i64 0) Tryz.underlying26 hz rfl rfl b 0 n n (by omega) (fun j hj => ?_) (fun j _ => ?_), ?_, below_setCells (Below.refl _ _) (Nat.le_refl _) _⟩
      · rw [Nat.zero_add, hrow.cell hj]; rfl
      · rw [Nat.zero_add]; exact hrow.frozen j
      · obtain ⟨c, hb, hc, hi⟩ := hrow
        refine ⟨_, setCells_all hb (List.replicate n (.int .i64 0)) (by simp [hc]), by simp, fun i hi => ?_⟩
        simp [hi]
  refine wpList_plain hgd fun K hK => ?_
  unfold Oper.wp execOp
  simp only [ho, resolve, invoke, builtin, Sem.run_bind, Sem.run_pure, Result.andThen_ok, List.map_toArray, List.map_cons, List.map_nil, hs, hr]
  exact hK _ _ (h W' h1 h2)
theorem wpList_load_midG {P : Program} {ops : Array Oper} {rest : List Oper} {op : Oper} {a : Act} {w : World} {Q : Exit → Act → World → Prop} (hw : Region.wanted op (yielded ops a.tmps) = true) (ty : TypeId) (x : Operand) (ho : op.op = .load ty x)
    (b o : Nat) (hx : a.eval x = .pointer (some ⟨b, o, none⟩)) (C : Array Value) (hc : w.rangeAt b o C.toList) (d : TypeDesc)
    (hu : P.underlying ty = some d) (hd : d.isRow = true) (hi : (P.info? ty).map (·.size) = some C.size)
    (h : wpList P ops Q rest (a.put op.dst (.agg C)) w) : wpList P ops Q (op :: rest) a w :=
  wpList_step fun K hK => by
    rw [if_pos hw]
    exact wp_load_mid ty x ho b o hx C.toList d hc hu hd (by simpa using hi) (hK _ _ (by simpa using h))
theorem wpList_stop {P : Program} {ops : Array Oper} {rest : List Oper} {op : Oper} {a : Act} {w : World} {Q : Exit → Act → World → Prop} (t : Tmp) (_hd : op.dst = some t) (h : Hid (wpList P ops Q (op :: rest) a w)) : wpList P ops Q (op :: rest) a w := h.out
theorem wpList_stopS {P : Program} {ops : Array Oper} {rest : List Oper} {op : Oper} {a : Act} {w : World} {Q : Exit → Act → World → Prop} (_hd : op.dst = none) (h : Hid (wpList P ops Q (op :: rest) a w)) : wpList P ops Q (op :: rest) a w := h.out
theorem insC_range {w : World} {b : Nat} {y : Lw} {o n : Int} {s : Bs} {A2 : Option Addr} {m c : Nat} (h : w.heap[b]? = some (.cells (lwX y o n s A2 m c) 49 (0, 0))) : w.rangeAt b 2 (insC y).toList := by
  intro j v hv
  simp only [World.cell?, h]
  match j, hv with
  | 0, hv | 1, hv | 2, hv | 3, hv | 4, hv | 5, hv | 6, hv | 7, hv | 8, hv => simp at hv; subst hv; rfl
  | j + 9, hv => simp at hv
end Go.Proofs.YtpdkpkabdkefcaaGreatDoor
namespace Go.Proofs.YtpdkpkabdkefcaaGreatDoor
open Go.Sx Go.ChangeShapes Go.WideShapes Go.RowKit Go.Joins Go.Deep Go.Rp
theorem row_zero {w : World} {b : Nat} {t : TypeId} {n i : Nat} {R : List Int} (h : w.rowIs b t n fun j => .int .i64 (if j < i then R.getD j 0 else 0)) (hv : R.getD i 0 = 0) :
    w.rowIs b t n fun j => .int .i64 (if j < i + 1 then R.getD j 0 else 0) := by
  refine h.congr fun j _ => ?_
  by_cases e : j = i
  · subst e
    rw [if_neg (Nat.lt_irrefl _), if_pos (by omega), hv]
  · by_cases h1 : j < i
    · rw [if_pos h1, if_pos (by omega)]
    · rw [if_neg h1, if_neg (by omega)]
theorem startL_get' (can : Lw → Bool → Bool) : ∀ (L : List Lw) (I : List Bool) (i : Nat) (h1 : i < L.length) (h2 : i < I.length), (startL can L I).getD i 0 = startF can L[i] I[i]
  | [], _, _, h, _ => by simp at h
  | _ :: _, [], _, _, h => by simp at h
  | y :: r, b :: s, 0, _, _ => by simp [startL]
  | y :: r, b :: s, i + 1, h1, h2 => by
    have := startL_get' can r s i (by simpa using h1) (by simpa using h2)
    simpa [startL] using this
theorem startL_len' (can : Lw → Bool → Bool) : ∀ (L : List Lw) (I : List Bool), I.length = L.length → (startL can L I).length = L.length
  | [], [], _ => rfl
  | [], _ :: _, h => by simp at h
  | _ :: _, [], h => by simp at h
  | y :: r, b :: s, h => by simp only [startL, List.length_cons]; rw [startL_len' can r s (by simpa using h)]
set_option maxHeartbeats 16000000 in
theorem start_l (can : Lw → Bool → Bool) (hCan : ∀ (y : Lw) (it : Bool) (w : World), Laid w → okW y → Calls Tryz.prog 27 #[.agg (insC y), .bool it] w fun e w' => e = .returned (.bool (can y it)) ∧ Below w.heap.size w w')
    (L : List Lw) (hL : L.length ≤ 900000) (A : Option Addr) (cap : Nat) (w : World) (K : Nat → Prop) (hA : LsAt w K A L) (hK : ∀ g, K g → g < w.heap.size) (hw : Laid w) :
    Calls Tryz.prog 9 #[.slice A L.length cap] w fun e w' => IntRet w.heap.size (startL can L (insideL L)) e w' ∧ Below w.heap.size w w' := by
  have hil := insideL_len L
  have hRl := startL_len' can L _ hil
  have hRg := startL_get' can L (insideL L)
  have hin := fun W hA' hK' => inside_b L hL A cap W K hA' hK'
  unfold BoolsRet at hin
  generalize startL can L (insideL L) = R at hRl hRg
  generalize insideL L = I at hil hRg hin
  have HRL := Lib.hid hRl
  have HRG := Lib.hid hRg
  have HI := Lib.hid hil
  have HCan := Lib.hid hCan
  have HW := Lib.hid hw
  clear hRl hRg hil hCan hw
  obtain ⟨i0, hi0, hz0, hz1, hz2⟩ := info_parts intInfo
  obtain ⟨W, hW⟩ : ∃ W, Hid (W = w.alloc (.cells (madeCells #[.int .i64 0] L.length) 3)) := ⟨_, Lib.hid rfl⟩
  have hrowW : W.rowIs w.heap.size 3 L.length fun _ => .int .i64 0 := by
    rw [hW.out]
    exact World.rowIs_made w (.int .i64 0) L.length 3
  have hbW : Below w.heap.size w W := by rw [hW.out]; exact (Below.refl _ _).alloc (Nat.le_refl _) _
  go_enter Tryz.func9, Tryz.ntmps9
  go_wp2_with (first | (refine wpList_make_row w rfl _ _ 26 rfl 3 i0 _ Tryz.underlying26 hi0 hz0 hz1 rfl .i64 .i64 L.length (by rfl) (by rfl) (by rw [hz2]; omega) (by omega) ?_; rw [← hW.out]) | (refine wpList_clear_row W rfl _ rfl w.heap.size L.length (by rfl) hrowW ?_; intro W0 hrow0 hb0) | fail)
  have hbW0 := hbW.trans hb0
  have hA0 := hA.below hK hbW0
  have hK0 : ∀ g, K g → g < W0.heap.size := fun g hg => Nat.lt_of_lt_of_le (hK g hg) hbW0.size
  ((with_reducible refine (hin W0 hA0 hK0).mono ?_); rintro e w1 ⟨⟨A1, c1, rfl, _, hat, hq1⟩, hb1⟩)
  have hlt0 := hrow0.lt
  have hrow1 : w1.rowIs w.heap.size 3 L.length fun j => .int .i64 (if j < 0 then R.getD j 0 else 0) := (hrow0.of_block (hb1.block _ hlt0)).congr fun j _ => by rw [if_neg (by omega)]
  have hbw1 := hbW0.trans (hb1.mono (Nat.le_of_lt hlt0))
  have hq2 : ∀ q o, A1 = some ⟨q, o, none⟩ → q ≠ w.heap.size := fun q o h => by have := hq1 q o h; omega
  clear hin hrowW hbW hrow0 hbW0 hA0 hK0 hq1 hlt0
  go_wp2_with (fail)
  go_loopw [15] (fun t wr => ∃ i : Nat, t = .int .i64 i ∧ i ≤ L.length ∧ wr.rowIs w.heap.size 3 L.length (fun j => .int .i64 (if j < i then R.getD j 0 else 0)) ∧ Below w.heap.size w wr ∧ Stay w.heap.size w1 wr) (fun t _ => L.length - (intOf t).toNat)
  case atStart => exact ⟨0, rfl, Nat.zero_le _, hrow1, hbw1, Stay.refl _ _⟩
  case round =>
    obtain ⟨i, rfl, hi, hrow, hb, hst⟩ := hrel
    clear hrow1
    by_cases hlt : i < L.length
    · have hlti : i < I.length := by have := HI.out; omega
      have u0 : decide ((i : Int) < (I.length : Int)) = true := decide_eq_true (by omega)
      obtain ⟨g, off, o, n, s, A2, m, c, rfl, hgl, hok, hline⟩ := hA.line hK hlt
      have hl0 := (hline wr hb).1
      obtain ⟨gI, oI, rfl, hgI, hcI⟩ := hat.at_ hlti
      have ci : wr.cell? ⟨gI, oI + i, none⟩ = some (.bool I[i]) := (hst.cell (p := ⟨gI, oI + i, none⟩) hgI (hq2 gI oI rfl)).trans (by have h := hcI 0 (.bool I[i]) rfl; simpa [booE] using h)
      have hF := HRG.out i hlt hlti
      clear hline hcI
      generalize L[i] = y at hl0 hok hF
      generalize I[i] = it at ci hF
      obtain ⟨V, hV, bV, sV, hzV, hth⟩ := line_copy wr y o n s A2 m c
      obtain ⟨_, q1, q2, q3, q4, q7, q11, q12, q13, q14⟩ := line_cells hzV
      have hlow := low_05 y.rd
      have hpl := place_l y (.int .i64 o) (.int .i64 n) (.string (tx s)) (.slice A2 m c)
      have hins := ins_18 y (.int .i64 o) (.int .i64 n) (.string (tx s)) (.slice A2 m c)
      have hrch := reach_l y (.int .i64 o) (.int .i64 n) (.string (tx s)) (.slice A2 m c)
      have hS : startF can y it = if !insB y then 0 else if (y.wd || (((y.k == 1) && (y.op == 36)) || (placeB y && !lowB y.rd))) then 1 else if reachB y then 0 else if can y it then 0 else 1 := rfl
      generalize startF can y it = F at hS hF
      have hcan := fun W hl => HCan.out y it W hl hok
      generalize insB y = bi at hins hS
      generalize placeB y = pb at hpl hS
      generalize lowB y.rd = lb at hlow hS
      generalize reachB y = rb at hrch hS
      generalize can y it = cn at hcan hS
      have HS := Lib.hid hS
      have HF := Lib.hid hF
      have HCN := Lib.hid hcan
      clear hS hF hcan hok
      have rowV := hrow.of_block (bV.block w.heap.size hrow.lt)
      have bWV := hb.trans (bV.mono hb.size)
      have sWV := hst.trans (Stay.of_below bV)
      have hne : wr.heap.size ≠ w.heap.size := by have := hrow.lt; omega
      have hNV : wr.heap.size < V.heap.size := by omega
      have hB0 : w.heap.size ≤ wr.heap.size := hb.size
      dsimp only [lwX, lwV, lwC] at hl0 hpl hins hrch
      have HLow := Lib.hid hlow
      have HPl := Lib.hid hpl
      have HIns := Lib.hid hins
      have HRch := Lib.hid hrch
      clear hrow hlow hpl hins hrch
      go_wp2_with (with_reducible show wpList _ _ _ (_ :: _) _ _; refine wpList_stop 23 rfl ?_)
      refine Lib.hid ?_
      refine wpList_load_row rfl 49 (.tmp 22) rfl g (off + i * 19) (by rfl) _ hl0 _ Tryz.underlying49 rfl (by kernel_rfl) ?_
      go_wp2_with (with_reducible show wpList _ _ _ (_ :: _) _ _; refine wpList_stop 6 rfl ?_)
      refine Lib.hid ?_
      refine wpList_allocW rfl (.cells lwZ 49) wr.heap.size rfl (alloc_line _ _ _ _ _ _) ?_
      refine wpList_store_mid rfl 49 (.tmp 6) (.tmp 23) rfl wr.heap.size 0 (lwX y o n s A2 m c) (by rfl) (by rfl) hth (by kernel_rfl) (lwC_one _ _ _ _ _ _ _) ?_; rw [← hV.out]
      refine Hid.out ?_
      cases hwd : y.wd
      rotate_left
      · rw [hwd] at q13
        refine Lib.hid ?_
        go_wp2_with (with_reducible show wpList _ _ _ (_ :: _) _ _; refine wpList_stop 48 rfl ?_)
        refine Lib.hid ?_
        refine wpList_load_blk rfl 49 (.tmp 6) rfl wr.heap.size (by rfl) _ hzV _ Tryz.underlying49 rfl (by kernel_rfl) ?_
        go_wp2_with (fail)
        ((with_reducible refine (HIns.out V).mono ?_); rintro e w6 ⟨rfl, hb6⟩)
        have hz6 := (hb6.block wr.heap.size (Array.getElem?_eq_some_iff.1 hzV).1).trans hzV
        have b6 := bWV.trans (hb6.mono bWV.size)
        have s6 := sWV.trans (Stay.of_below hb6)
        have row6 := rowV.of_block (hb6.block w.heap.size rowV.lt)
        cases bi
        · skip
          have hF : F = 0 := by rw [HS.out]; rfl
          have rowX := row_zero row6 (HF.out.trans hF)
          go_wp2_with (fail)
          go_roundw
          case rel => exact ⟨i + 1, by go_num, by omega, rowX, b6, s6⟩
          case measure => simp [intOf]; omega
        · skip
          have hF : F = 1 := by rw [HS.out, hwd]; rfl
          have rowX := row_put row6 (HF.out.trans hF)
          have bX := b6.setCell (p := ⟨w.heap.size, i, none⟩) (Nat.le_refl _) (.int .i64 1)
          have sX := s6.trans (Stay.set (d := w.heap.size) w6 i (.int .i64 1))
          have fz := row6.frozen i
          have cz := row6.cell hlt
          rw [if_neg (Nat.lt_irrefl i)] at cz
          go_wp2_with (fail)
          go_roundw
          case rel => exact ⟨i + 1, by go_num, by omega, rowX, bX, sX⟩
          case measure => simp [intOf]; omega
      rw [hwd] at q13
      cases k1 : (y.k == 1)
      · skip
        refine Lib.hid ?_
        go_wp2_with (with_reducible show wpList _ _ _ (_ :: _) _ _; refine wpList_stop 38 rfl ?_)
        refine Lib.hid ?_
        refine wpList_load_blkG rfl 49 (.tmp 6) rfl wr.heap.size (by rfl) _ hzV _ Tryz.underlying49 rfl (by kernel_rfl) ?_
        go_wp2_with (fail)
        ((with_reducible refine (HPl.out V).mono ?_); rintro e w5 ⟨rfl, hb5⟩)
        have hz5 := (hb5.block wr.heap.size (Array.getElem?_eq_some_iff.1 hzV).1).trans hzV
        have b5 := bWV.trans (hb5.mono bWV.size)
        have s5 := sWV.trans (Stay.of_below hb5)
        have row5 := rowV.of_block (hb5.block w.heap.size rowV.lt)
        have p4 := (line_cells hz5).2.2.2.2.1
        cases pb
        · skip
          go_wp2_with (with_reducible show wpList _ _ _ (_ :: _) _ _; refine wpList_stop 48 rfl ?_)
          refine Lib.hid ?_
          refine wpList_load_blk rfl 49 (.tmp 6) rfl wr.heap.size (by rfl) _ hz5 _ Tryz.underlying49 rfl (by kernel_rfl) ?_
          go_wp2_with (fail)
          ((with_reducible refine (HIns.out w5).mono ?_); rintro e w6 ⟨rfl, hb6⟩)
          have hz6 := (hb6.block wr.heap.size (Array.getElem?_eq_some_iff.1 hz5).1).trans hz5
          have b6 := b5.trans (hb6.mono b5.size)
          have s6 := s5.trans (Stay.of_below hb6)
          have row6 := row5.of_block (hb6.block w.heap.size row5.lt)
          cases bi
          · skip
            have hF : F = 0 := by rw [HS.out]; rfl
            have rowX := row_zero row6 (HF.out.trans hF)
            go_wp2_with (fail)
            go_roundw
            case rel => exact ⟨i + 1, by go_num, by omega, rowX, b6, s6⟩
            case measure => simp [intOf]; omega
          · skip
            go_wp2_with (with_reducible show wpList _ _ _ (_ :: _) _ _; refine wpList_stop 53 rfl ?_)
            refine Lib.hid ?_
            refine wpList_load_blkG rfl 49 (.tmp 6) rfl wr.heap.size (by rfl) _ hz6 _ Tryz.underlying49 rfl (by kernel_rfl) ?_
            go_wp2_with (fail)
            ((with_reducible refine (HRch.out w6).mono ?_); rintro e w7 ⟨rfl, hb7⟩)
            have hz7 := (hb7.block wr.heap.size (Array.getElem?_eq_some_iff.1 hz6).1).trans hz6
            have b7 := b6.trans (hb7.mono b6.size)
            have s7 := s6.trans (Stay.of_below hb7)
            have row7 := row6.of_block (hb7.block w.heap.size row6.lt)
            cases rb
            rotate_left
            · skip
              have hF : F = 0 := by rw [HS.out, hwd, k1]; rfl
              have rowX := row_zero row7 (HF.out.trans hF)
              go_wp2_with (fail)
              go_roundw
              case rel => exact ⟨i + 1, by go_num, by omega, rowX, b7, s7⟩
              case measure => simp [intOf]; omega
            have hl7 := laid_lw HW.out b7
            go_wp2_with (with_reducible show wpList _ _ _ (_ :: _) _ _; refine wpList_stop 58 rfl ?_)
            refine Lib.hid ?_
            refine wpList_load_midG rfl 44 (.tmp 57) rfl wr.heap.size 2 (by rfl) (insC y) (insC_range hz7) _ Tryz.underlying44 rfl (by kernel_rfl) ?_
            go_wp2_with (fail)
            ((with_reducible refine (HCN.out w7 hl7).mono ?_); rintro e w8 ⟨rfl, hb8⟩)
            have hz8 := (hb8.block wr.heap.size (Array.getElem?_eq_some_iff.1 hz7).1).trans hz7
            have b8 := b7.trans (hb8.mono b7.size)
            have s8 := s7.trans (Stay.of_below hb8)
            have row8 := row7.of_block (hb8.block w.heap.size row7.lt)
            cases cn
            · skip
              have hF : F = 1 := by rw [HS.out, hwd, k1]; rfl
              have rowX := row_put row8 (HF.out.trans hF)
              have bX := b8.setCell (p := ⟨w.heap.size, i, none⟩) (Nat.le_refl _) (.int .i64 1)
              have sX := s8.trans (Stay.set (d := w.heap.size) w8 i (.int .i64 1))
              have fz := row8.frozen i
              have cz := row8.cell hlt
              rw [if_neg (Nat.lt_irrefl i)] at cz
              go_wp2_with (fail)
              go_roundw
              case rel => exact ⟨i + 1, by go_num, by omega, rowX, bX, sX⟩
              case measure => simp [intOf]; omega
            · skip
              have hF : F = 0 := by rw [HS.out, hwd, k1]; rfl
              have rowX := row_zero row8 (HF.out.trans hF)
              go_wp2_with (fail)
              go_roundw
              case rel => exact ⟨i + 1, by go_num, by omega, rowX, b8, s8⟩
              case measure => simp [intOf]; omega
        · skip
          go_wp2_with (fail)
          ((with_reducible refine (HLow.out w5).mono ?_); rintro e wz ⟨rfl, hwz⟩); rw [hwz]; clear hwz wz
          cases lb
          · skip
            go_wp2_with (with_reducible show wpList _ _ _ (_ :: _) _ _; refine wpList_stop 48 rfl ?_)
            refine Lib.hid ?_
            refine wpList_load_blk rfl 49 (.tmp 6) rfl wr.heap.size (by rfl) _ hz5 _ Tryz.underlying49 rfl (by kernel_rfl) ?_
            go_wp2_with (fail)
            ((with_reducible refine (HIns.out w5).mono ?_); rintro e w6 ⟨rfl, hb6⟩)
            have hz6 := (hb6.block wr.heap.size (Array.getElem?_eq_some_iff.1 hz5).1).trans hz5
            have b6 := b5.trans (hb6.mono b5.size)
            have s6 := s5.trans (Stay.of_below hb6)
            have row6 := row5.of_block (hb6.block w.heap.size row5.lt)
            cases bi
            · skip
              have hF : F = 0 := by rw [HS.out]; rfl
              have rowX := row_zero row6 (HF.out.trans hF)
              go_wp2_with (fail)
              go_roundw
              case rel => exact ⟨i + 1, by go_num, by omega, rowX, b6, s6⟩
              case measure => simp [intOf]; omega
            · skip
              have hF : F = 1 := by rw [HS.out, hwd, k1]; rfl
              have rowX := row_put row6 (HF.out.trans hF)
              have bX := b6.setCell (p := ⟨w.heap.size, i, none⟩) (Nat.le_refl _) (.int .i64 1)
              have sX := s6.trans (Stay.set (d := w.heap.size) w6 i (.int .i64 1))
              have fz := row6.frozen i
              have cz := row6.cell hlt
              rw [if_neg (Nat.lt_irrefl i)] at cz
              go_wp2_with (fail)
              go_roundw
              case rel => exact ⟨i + 1, by go_num, by omega, rowX, bX, sX⟩
              case measure => simp [intOf]; omega
          · skip
            go_wp2_with (with_reducible show wpList _ _ _ (_ :: _) _ _; refine wpList_stop 48 rfl ?_)
            refine Lib.hid ?_
            refine wpList_load_blk rfl 49 (.tmp 6) rfl wr.heap.size (by rfl) _ hz5 _ Tryz.underlying49 rfl (by kernel_rfl) ?_
            go_wp2_with (fail)
            ((with_reducible refine (HIns.out w5).mono ?_); rintro e w6 ⟨rfl, hb6⟩)
            have hz6 := (hb6.block wr.heap.size (Array.getElem?_eq_some_iff.1 hz5).1).trans hz5
            have b6 := b5.trans (hb6.mono b5.size)
            have s6 := s5.trans (Stay.of_below hb6)
            have row6 := row5.of_block (hb6.block w.heap.size row5.lt)
            cases bi
            · skip
              have hF : F = 0 := by rw [HS.out]; rfl
              have rowX := row_zero row6 (HF.out.trans hF)
              go_wp2_with (fail)
              go_roundw
              case rel => exact ⟨i + 1, by go_num, by omega, rowX, b6, s6⟩
              case measure => simp [intOf]; omega
            · skip
              go_wp2_with (with_reducible show wpList _ _ _ (_ :: _) _ _; refine wpList_stop 53 rfl ?_)
              refine Lib.hid ?_
              refine wpList_load_blkG rfl 49 (.tmp 6) rfl wr.heap.size (by rfl) _ hz6 _ Tryz.underlying49 rfl (by kernel_rfl) ?_
              go_wp2_with (fail)
              ((with_reducible refine (HRch.out w6).mono ?_); rintro e w7 ⟨rfl, hb7⟩)
              have hz7 := (hb7.block wr.heap.size (Array.getElem?_eq_some_iff.1 hz6).1).trans hz6
              have b7 := b6.trans (hb7.mono b6.size)
              have s7 := s6.trans (Stay.of_below hb7)
              have row7 := row6.of_block (hb7.block w.heap.size row6.lt)
              cases rb
              rotate_left
              · skip
                have hF : F = 0 := by rw [HS.out, hwd, k1]; rfl
                have rowX := row_zero row7 (HF.out.trans hF)
                go_wp2_with (fail)
                go_roundw
                case rel => exact ⟨i + 1, by go_num, by omega, rowX, b7, s7⟩
                case measure => simp [intOf]; omega
              have hl7 := laid_lw HW.out b7
              go_wp2_with (with_reducible show wpList _ _ _ (_ :: _) _ _; refine wpList_stop 58 rfl ?_)
              refine Lib.hid ?_
              refine wpList_load_midG rfl 44 (.tmp 57) rfl wr.heap.size 2 (by rfl) (insC y) (insC_range hz7) _ Tryz.underlying44 rfl (by kernel_rfl) ?_
              go_wp2_with (fail)
              ((with_reducible refine (HCN.out w7 hl7).mono ?_); rintro e w8 ⟨rfl, hb8⟩)
              have hz8 := (hb8.block wr.heap.size (Array.getElem?_eq_some_iff.1 hz7).1).trans hz7
              have b8 := b7.trans (hb8.mono b7.size)
              have s8 := s7.trans (Stay.of_below hb8)
              have row8 := row7.of_block (hb8.block w.heap.size row7.lt)
              cases cn
              · skip
                have hF : F = 1 := by rw [HS.out, hwd, k1]; rfl
                have rowX := row_put row8 (HF.out.trans hF)
                have bX := b8.setCell (p := ⟨w.heap.size, i, none⟩) (Nat.le_refl _) (.int .i64 1)
                have sX := s8.trans (Stay.set (d := w.heap.size) w8 i (.int .i64 1))
                have fz := row8.frozen i
                have cz := row8.cell hlt
                rw [if_neg (Nat.lt_irrefl i)] at cz
                go_wp2_with (fail)
                go_roundw
                case rel => exact ⟨i + 1, by go_num, by omega, rowX, bX, sX⟩
                case measure => simp [intOf]; omega
              · skip
                have hF : F = 0 := by rw [HS.out, hwd, k1]; rfl
                have rowX := row_zero row8 (HF.out.trans hF)
                go_wp2_with (fail)
                go_roundw
                case rel => exact ⟨i + 1, by go_num, by omega, rowX, b8, s8⟩
                case measure => simp [intOf]; omega
      · skip
        cases o36 : (y.op == 36)
        · skip
          refine Lib.hid ?_
          go_wp2_with (with_reducible show wpList _ _ _ (_ :: _) _ _; refine wpList_stop 38 rfl ?_)
          refine Lib.hid ?_
          refine wpList_load_blkG rfl 49 (.tmp 6) rfl wr.heap.size (by rfl) _ hzV _ Tryz.underlying49 rfl (by kernel_rfl) ?_
          go_wp2_with (fail)
          ((with_reducible refine (HPl.out V).mono ?_); rintro e w5 ⟨rfl, hb5⟩)
          have hz5 := (hb5.block wr.heap.size (Array.getElem?_eq_some_iff.1 hzV).1).trans hzV
          have b5 := bWV.trans (hb5.mono bWV.size)
          have s5 := sWV.trans (Stay.of_below hb5)
          have row5 := rowV.of_block (hb5.block w.heap.size rowV.lt)
          have p4 := (line_cells hz5).2.2.2.2.1
          cases pb
          · skip
            go_wp2_with (with_reducible show wpList _ _ _ (_ :: _) _ _; refine wpList_stop 48 rfl ?_)
            refine Lib.hid ?_
            refine wpList_load_blk rfl 49 (.tmp 6) rfl wr.heap.size (by rfl) _ hz5 _ Tryz.underlying49 rfl (by kernel_rfl) ?_
            go_wp2_with (fail)
            ((with_reducible refine (HIns.out w5).mono ?_); rintro e w6 ⟨rfl, hb6⟩)
            have hz6 := (hb6.block wr.heap.size (Array.getElem?_eq_some_iff.1 hz5).1).trans hz5
            have b6 := b5.trans (hb6.mono b5.size)
            have s6 := s5.trans (Stay.of_below hb6)
            have row6 := row5.of_block (hb6.block w.heap.size row5.lt)
            cases bi
            · skip
              have hF : F = 0 := by rw [HS.out]; rfl
              have rowX := row_zero row6 (HF.out.trans hF)
              go_wp2_with (fail)
              go_roundw
              case rel => exact ⟨i + 1, by go_num, by omega, rowX, b6, s6⟩
              case measure => simp [intOf]; omega
            · skip
              go_wp2_with (with_reducible show wpList _ _ _ (_ :: _) _ _; refine wpList_stop 53 rfl ?_)
              refine Lib.hid ?_
              refine wpList_load_blkG rfl 49 (.tmp 6) rfl wr.heap.size (by rfl) _ hz6 _ Tryz.underlying49 rfl (by kernel_rfl) ?_
              go_wp2_with (fail)
              ((with_reducible refine (HRch.out w6).mono ?_); rintro e w7 ⟨rfl, hb7⟩)
              have hz7 := (hb7.block wr.heap.size (Array.getElem?_eq_some_iff.1 hz6).1).trans hz6
              have b7 := b6.trans (hb7.mono b6.size)
              have s7 := s6.trans (Stay.of_below hb7)
              have row7 := row6.of_block (hb7.block w.heap.size row6.lt)
              cases rb
              rotate_left
              · skip
                have hF : F = 0 := by rw [HS.out, hwd, k1, o36]; rfl
                have rowX := row_zero row7 (HF.out.trans hF)
                go_wp2_with (fail)
                go_roundw
                case rel => exact ⟨i + 1, by go_num, by omega, rowX, b7, s7⟩
                case measure => simp [intOf]; omega
              have hl7 := laid_lw HW.out b7
              go_wp2_with (with_reducible show wpList _ _ _ (_ :: _) _ _; refine wpList_stop 58 rfl ?_)
              refine Lib.hid ?_
              refine wpList_load_midG rfl 44 (.tmp 57) rfl wr.heap.size 2 (by rfl) (insC y) (insC_range hz7) _ Tryz.underlying44 rfl (by kernel_rfl) ?_
              go_wp2_with (fail)
              ((with_reducible refine (HCN.out w7 hl7).mono ?_); rintro e w8 ⟨rfl, hb8⟩)
              have hz8 := (hb8.block wr.heap.size (Array.getElem?_eq_some_iff.1 hz7).1).trans hz7
              have b8 := b7.trans (hb8.mono b7.size)
              have s8 := s7.trans (Stay.of_below hb8)
              have row8 := row7.of_block (hb8.block w.heap.size row7.lt)
              cases cn
              · skip
                have hF : F = 1 := by rw [HS.out, hwd, k1, o36]; rfl
                have rowX := row_put row8 (HF.out.trans hF)
                have bX := b8.setCell (p := ⟨w.heap.size, i, none⟩) (Nat.le_refl _) (.int .i64 1)
                have sX := s8.trans (Stay.set (d := w.heap.size) w8 i (.int .i64 1))
                have fz := row8.frozen i
                have cz := row8.cell hlt
                rw [if_neg (Nat.lt_irrefl i)] at cz
                go_wp2_with (fail)
                go_roundw
                case rel => exact ⟨i + 1, by go_num, by omega, rowX, bX, sX⟩
                case measure => simp [intOf]; omega
              · skip
                have hF : F = 0 := by rw [HS.out, hwd, k1, o36]; rfl
                have rowX := row_zero row8 (HF.out.trans hF)
                go_wp2_with (fail)
                go_roundw
                case rel => exact ⟨i + 1, by go_num, by omega, rowX, b8, s8⟩
                case measure => simp [intOf]; omega
          · skip
            go_wp2_with (fail)
            ((with_reducible refine (HLow.out w5).mono ?_); rintro e wz ⟨rfl, hwz⟩); rw [hwz]; clear hwz wz
            cases lb
            · skip
              go_wp2_with (with_reducible show wpList _ _ _ (_ :: _) _ _; refine wpList_stop 48 rfl ?_)
              refine Lib.hid ?_
              refine wpList_load_blk rfl 49 (.tmp 6) rfl wr.heap.size (by rfl) _ hz5 _ Tryz.underlying49 rfl (by kernel_rfl) ?_
              go_wp2_with (fail)
              ((with_reducible refine (HIns.out w5).mono ?_); rintro e w6 ⟨rfl, hb6⟩)
              have hz6 := (hb6.block wr.heap.size (Array.getElem?_eq_some_iff.1 hz5).1).trans hz5
              have b6 := b5.trans (hb6.mono b5.size)
              have s6 := s5.trans (Stay.of_below hb6)
              have row6 := row5.of_block (hb6.block w.heap.size row5.lt)
              cases bi
              · skip
                have hF : F = 0 := by rw [HS.out]; rfl
                have rowX := row_zero row6 (HF.out.trans hF)
                go_wp2_with (fail)
                go_roundw
                case rel => exact ⟨i + 1, by go_num, by omega, rowX, b6, s6⟩
                case measure => simp [intOf]; omega
              · skip
                have hF : F = 1 := by rw [HS.out, hwd, k1, o36]; rfl
                have rowX := row_put row6 (HF.out.trans hF)
                have bX := b6.setCell (p := ⟨w.heap.size, i, none⟩) (Nat.le_refl _) (.int .i64 1)
                have sX := s6.trans (Stay.set (d := w.heap.size) w6 i (.int .i64 1))
                have fz := row6.frozen i
                have cz := row6.cell hlt
                rw [if_neg (Nat.lt_irrefl i)] at cz
                go_wp2_with (fail)
                go_roundw
                case rel => exact ⟨i + 1, by go_num, by omega, rowX, bX, sX⟩
                case measure => simp [intOf]; omega
            · skip
              go_wp2_with (with_reducible show wpList _ _ _ (_ :: _) _ _; refine wpList_stop 48 rfl ?_)
              refine Lib.hid ?_
              refine wpList_load_blk rfl 49 (.tmp 6) rfl wr.heap.size (by rfl) _ hz5 _ Tryz.underlying49 rfl (by kernel_rfl) ?_
              go_wp2_with (fail)
              ((with_reducible refine (HIns.out w5).mono ?_); rintro e w6 ⟨rfl, hb6⟩)
              have hz6 := (hb6.block wr.heap.size (Array.getElem?_eq_some_iff.1 hz5).1).trans hz5
              have b6 := b5.trans (hb6.mono b5.size)
              have s6 := s5.trans (Stay.of_below hb6)
              have row6 := row5.of_block (hb6.block w.heap.size row5.lt)
              cases bi
              · skip
                have hF : F = 0 := by rw [HS.out]; rfl
                have rowX := row_zero row6 (HF.out.trans hF)
                go_wp2_with (fail)
                go_roundw
                case rel => exact ⟨i + 1, by go_num, by omega, rowX, b6, s6⟩
                case measure => simp [intOf]; omega
              · skip
                go_wp2_with (with_reducible show wpList _ _ _ (_ :: _) _ _; refine wpList_stop 53 rfl ?_)
                refine Lib.hid ?_
                refine wpList_load_blkG rfl 49 (.tmp 6) rfl wr.heap.size (by rfl) _ hz6 _ Tryz.underlying49 rfl (by kernel_rfl) ?_
                go_wp2_with (fail)
                ((with_reducible refine (HRch.out w6).mono ?_); rintro e w7 ⟨rfl, hb7⟩)
                have hz7 := (hb7.block wr.heap.size (Array.getElem?_eq_some_iff.1 hz6).1).trans hz6
                have b7 := b6.trans (hb7.mono b6.size)
                have s7 := s6.trans (Stay.of_below hb7)
                have row7 := row6.of_block (hb7.block w.heap.size row6.lt)
                cases rb
                rotate_left
                · skip
                  have hF : F = 0 := by rw [HS.out, hwd, k1, o36]; rfl
                  have rowX := row_zero row7 (HF.out.trans hF)
                  go_wp2_with (fail)
                  go_roundw
                  case rel => exact ⟨i + 1, by go_num, by omega, rowX, b7, s7⟩
                  case measure => simp [intOf]; omega
                have hl7 := laid_lw HW.out b7
                go_wp2_with (with_reducible show wpList _ _ _ (_ :: _) _ _; refine wpList_stop 58 rfl ?_)
                refine Lib.hid ?_
                refine wpList_load_midG rfl 44 (.tmp 57) rfl wr.heap.size 2 (by rfl) (insC y) (insC_range hz7) _ Tryz.underlying44 rfl (by kernel_rfl) ?_
                go_wp2_with (fail)
                ((with_reducible refine (HCN.out w7 hl7).mono ?_); rintro e w8 ⟨rfl, hb8⟩)
                have hz8 := (hb8.block wr.heap.size (Array.getElem?_eq_some_iff.1 hz7).1).trans hz7
                have b8 := b7.trans (hb8.mono b7.size)
                have s8 := s7.trans (Stay.of_below hb8)
                have row8 := row7.of_block (hb8.block w.heap.size row7.lt)
                cases cn
                · skip
                  have hF : F = 1 := by rw [HS.out, hwd, k1, o36]; rfl
                  have rowX := row_put row8 (HF.out.trans hF)
                  have bX := b8.setCell (p := ⟨w.heap.size, i, none⟩) (Nat.le_refl _) (.int .i64 1)
                  have sX := s8.trans (Stay.set (d := w.heap.size) w8 i (.int .i64 1))
                  have fz := row8.frozen i
                  have cz := row8.cell hlt
                  rw [if_neg (Nat.lt_irrefl i)] at cz
                  go_wp2_with (fail)
                  go_roundw
                  case rel => exact ⟨i + 1, by go_num, by omega, rowX, bX, sX⟩
                  case measure => simp [intOf]; omega
                · skip
                  have hF : F = 0 := by rw [HS.out, hwd, k1, o36]; rfl
                  have rowX := row_zero row8 (HF.out.trans hF)
                  go_wp2_with (fail)
                  go_roundw
                  case rel => exact ⟨i + 1, by go_num, by omega, rowX, b8, s8⟩
                  case measure => simp [intOf]; omega
        · skip
          refine Lib.hid ?_
          go_wp2_with (with_reducible show wpList _ _ _ (_ :: _) _ _; refine wpList_stop 48 rfl ?_)
          refine Lib.hid ?_
          refine wpList_load_blk rfl 49 (.tmp 6) rfl wr.heap.size (by rfl) _ hzV _ Tryz.underlying49 rfl (by kernel_rfl) ?_
          go_wp2_with (fail)
          ((with_reducible refine (HIns.out V).mono ?_); rintro e w6 ⟨rfl, hb6⟩)
          have hz6 := (hb6.block wr.heap.size (Array.getElem?_eq_some_iff.1 hzV).1).trans hzV
          have b6 := bWV.trans (hb6.mono bWV.size)
          have s6 := sWV.trans (Stay.of_below hb6)
          have row6 := rowV.of_block (hb6.block w.heap.size rowV.lt)
          cases bi
          · skip
            have hF : F = 0 := by rw [HS.out]; rfl
            have rowX := row_zero row6 (HF.out.trans hF)
            go_wp2_with (fail)
            go_roundw
            case rel => exact ⟨i + 1, by go_num, by omega, rowX, b6, s6⟩
            case measure => simp [intOf]; omega
          · skip
            have hF : F = 1 := by rw [HS.out, hwd, k1, o36]; rfl
            have rowX := row_put row6 (HF.out.trans hF)
            have bX := b6.setCell (p := ⟨w.heap.size, i, none⟩) (Nat.le_refl _) (.int .i64 1)
            have sX := s6.trans (Stay.set (d := w.heap.size) w6 i (.int .i64 1))
            have fz := row6.frozen i
            have cz := row6.cell hlt
            rw [if_neg (Nat.lt_irrefl i)] at cz
            go_wp2_with (fail)
            go_roundw
            case rel => exact ⟨i + 1, by go_num, by omega, rowX, bX, sX⟩
            case measure => simp [intOf]; omega
    · obtain rfl : i = L.length := by omega
      have u0 : decide ((L.length : Int) < (I.length : Int)) = false := decide_eq_false (by have := HI.out; omega)
      have u1 : decide (L.length < I.length) = false := decide_eq_false (by have := HI.out; omega)
      have rowX : wr.rowIs w.heap.size 3 L.length (fun j => .int .i64 (R.getD j 0)) := hrow.congr fun j hj => by rw [if_pos hj]
      have hret := intRet_row (B := w.heap.size) R HRL.out rowX (Nat.le_refl _)
      clear hat hrow rowX
      go_wp2_with fail
      refine bodyPost_ret (results_tmp rfl _ _ _) rfl ?_
      exact ⟨hret, hb⟩
end Go.Proofs.YtpdkpkabdkefcaaGreatDoor
