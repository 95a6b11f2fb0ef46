/- For the seat: texts joined: LyH, LyI, LyJ, LyK, LyM0, LyN. -/
import Derived.Test.YtpdkpkabdkefcaaGreatDoorJAr
import Derived.Test.YtpdkpkabdkefcaaGreatDoorJAp
import Derived.Test.YtpdkpkabdkefcaaGreatDoorJAq
set_option maxRecDepth 100000
namespace Go.Proofs.YtpdkpkabdkefcaaGreatDoor
open Go.Sx Go.ChangeShapes Go.WideShapes Go.RowKit Go.Joins Go.Deep Go.Rp
theorem drop_getD {R : List Int} {i : Nat} {x : Int} {r : List Int} (h : R.drop i = x :: r) : R.getD i 0 = x ∧ R.drop (i + 1) = r := by
  constructor
  · have := congrArg List.head? h
    rw [List.head?_drop, List.head?_cons] at this
    rw [List.getD_eq_getElem?_getD, this]; rfl
  · rw [← List.drop_drop, h]; rfl
theorem headD_drop (F : List Int) (i : Nat) : (F.drop i).headD 0 = F.getD i 0 := by
  rw [List.headD_eq_head?_getD, List.head?_drop, List.getD_eq_getElem?_getD]
theorem mem_getD {F : List Int} {Q : Int → Prop} (h : ∀ f ∈ F, Q f) (h0 : Q 0) (i : Nat) : Q (F.getD i 0) := by
  rw [List.getD_eq_getElem?_getD]
  cases e : F[i]? with
  | none => exact h0
  | some f => exact h f (List.mem_of_getElem? e)
set_option maxHeartbeats 16000000 in
theorem sizes_l (L : List Lw) (hL : L.length ≤ 1000) (hsz : ∀ y ∈ L, y.sz ≤ 1048576) (F : List Int) (hF : ∀ f ∈ F, okF f) (hFl : F.length ≤ 1000000) (P : List (List Int)) (hP : ∀ p ∈ P, p.length ≤ 100000) (hPl : P.length ≤ 1000000)
    (A AF AP : Option Addr) (cA cF cP : Nat) (w : World) (K : Nat → Prop) (hA : LsAt w K A L) (hK : ∀ g, K g → g < w.heap.size) (hAF : IAt w w.heap.size AF F) (hAP : PlAt w w.heap.size AP P) :
    Calls Tryz.prog 16 #[.slice A L.length cA, .slice AF F.length cF, .slice AP P.length cP] w fun e w' => IntRet w.heap.size (sizesF P L F 0 0) e w' ∧ Below w.heap.size w w' := by
  have hlen := sizesF_len P L F 0 0
  generalize hR : sizesF P L F 0 0 = R at hlen
  have HR := Lib.hid hR
  have HL := Lib.hid hlen
  have HSZ := Lib.hid hsz
  have HF := Lib.hid hF
  have HP := Lib.hid hP
  clear hR hlen hsz hF hP
  have hi1 : IntKind.i64.wrap ((L.length : Int) + 1) = (L.length : Int) + 1 := by rw [IntWalk.i64_left]; unfold wrap64; omega
  obtain ⟨i0, hi0, hz0, hz1, hz2⟩ := info_parts intInfo
  obtain ⟨W, hW⟩ : ∃ W, Hid (W = w.alloc (.cells (madeCells #[.int .i64 0] (L.length + 1)) 3)) := ⟨_, Lib.hid rfl⟩
  have hrow0 : W.rowIs w.heap.size 3 (L.length + 1) fun j => .int .i64 (if j < 0 then R.getD j 0 else 0) := by
    rw [hW.out]
    exact (World.rowIs_made w (.int .i64 0) (L.length + 1) 3).congr fun j _ => by rw [if_neg (by omega)]
  have hbW : Below w.heap.size w W := by rw [hW.out]; exact (Below.refl _ _).alloc (Nat.le_refl _) _
  go_enter Tryz.func16, Tryz.ntmps16
  go_wp2_with (with_reducible show wpList _ _ _ (_ :: _) _ _; refine wpList_stop 15 rfl ?_)
  refine Lib.hid ?_
  refine wpList_make_row w rfl _ _ 26 rfl 3 i0 _ Tryz.underlying26 hi0 hz0 hz1 rfl .i64 .i64 (L.length + 1) (by rfl) (by rfl) (by rw [hz2]; omega) (by omega) ?_
  rw [← hW.out]
  clear hi0 hz0 hz1 hz2
  go_wp2_with (fail)
  go_loopw [8, 9, 18] (fun ta tn t wr => ∃ (i q : Nat) (a : Int), t = .int .i64 i ∧ ta = .int .i64 a ∧ tn = .int .i64 q ∧ i ≤ L.length ∧ q ≤ i ∧ 0 ≤ a ∧ a ≤ i * 1500000 ∧ Hid (sizesF P (L.drop i) (F.drop i) a q = R.drop i) ∧
      wr.rowIs w.heap.size 3 (L.length + 1) (fun j => .int .i64 (if j < i then R.getD j 0 else 0)) ∧ Below w.heap.size w wr) (fun _ _ t _ => L.length - (intOf t).toNat)
  case atStart => exact ⟨0, 0, 0, rfl, rfl, rfl, Nat.zero_le _, Nat.zero_le _, by omega, by omega, Lib.hid (by rw [List.drop_zero, List.drop_zero, List.drop_zero]; exact HR.out), hrow0, hbW⟩
  case round =>
    obtain ⟨i, q, a, rfl, rfl, rfl, hi, hqi, ha0, ha1, he, hrow, hb⟩ := hrel
    clear hrow0 hbW HR
    by_cases hlt : i < L.length
    · have u0 : decide ((i : Int) < (L.length : Int)) = true := decide_eq_true (by omega)
      obtain ⟨g, off, o, n, s, A2, m, c, rfl, hgl, hok, hline⟩ := hA.line hK hlt
      have hl0 := (hline wr hb).1
      have hE := he.out
      rw [List.drop_eq_getElem_cons hlt, sizesF, headD_drop, List.tail_drop] at hE
      obtain ⟨hE1, hE2⟩ := drop_getD hE.symm
      have hsz := HSZ.out _ (List.getElem_mem hlt)
      have hf := mem_getD HF.out (by unfold okF; omega) i
      have hform := form_l F i hFl AF cF
      clear hline hok hE he
      generalize L[i] = y at hl0 hE1 hE2 hsz
      generalize F.getD i 0 = f at hE1 hE2 hf hform
      have hsb := lineSz_bd P y f a q hsz HP.out
      have hS : lineSz P y f a q = if y.k = 1 ∨ y.k = 2 then 2 + 2 * min (max f 0) 2 else if y.k = 3 ∨ y.k = 7 then max y.sz 0 else if y.k = 4 then leadI a y.sz else if y.k = 5 then poolSz (P.getD q []) a else 0 := rfl
      generalize lineSz P y f a q = S at hE1 hE2 hsb hS
      obtain ⟨V, hV, bV, sV, hzV, hth⟩ := line_copy wr y o n s A2 m c
      obtain ⟨_, q1, _, _, _, _, _, _, _, q14⟩ := line_cells hzV
      have hqx := PlAt.below hAP (hb.trans (bV.mono hb.size)) (Nat.le_refl _)
      have hfx := hAF.below (hb.trans (bV.mono hb.size)) (Nat.le_refl _)
      have hsv : w.heap.size ≤ V.heap.size := by have := hb.size; omega
      have hform1 := hform V (hfx.more hsv)
      have hlead := lead_l a y.sz hsz V
      have hpool := pool_l P q hPl AP cP V (hqx.more hsv)
      have hpz := fun A c => poolSz_l (P.getD q []) a (getD_pool HP.out q) A c V
      generalize P.getD q [] = pq at hpool hpz hS
      have HS := Lib.hid hS
      have HE1 := Lib.hid hE1
      have HE2 := Lib.hid hE2.symm
      have HFm := Lib.hid hform1
      have HLd := Lib.hid hlead
      have HPl := Lib.hid hpool
      have HPz := Lib.hid hpz
      have HK := Lib.hid (show nextN y q = if y.k = 5 then q + 1 else q from rfl)
      have rowV := hrow.of_block (bV.block w.heap.size hrow.lt)
      have bWV := hb.trans (bV.mono hb.size)
      have hli : i < L.length + 1 := by omega
      have fz := rowV.frozen i
      have cz := rowV.cell hli
      rw [if_neg (Nat.lt_irrefl i)] at cz
      have rowX := row_put rowV hE1
      have bX := bWV.setCell (p := ⟨w.heap.size, i, none⟩) (Nat.le_refl _) (.int .i64 S)
      have cX := rowX.cell hli
      rw [if_pos (Nat.lt_succ_self i), hE1] at cX
      have a1' : 0 ≤ a + S ∧ a + S ≤ ((i + 1 : Nat) : Int) * 1500000 := by constructor <;> push_cast <;> omega
      dsimp only [lwX, lwC] at hl0
      clear hrow hS hE1 hE2 hform hform1 hlead hpool hpz hqx hfx
      go_wp2_with (with_reducible show wpList _ _ _ (_ :: _) _ _; refine wpList_stop 22 rfl ?_)
      refine Lib.hid ?_
      refine wpList_load_row rfl 49 (.tmp 21) rfl g (off + i * 19) (by rfl) _ hl0 _ Tryz.underlying49 rfl (by kernel_rfl) ?_
      go_wp2_with (with_reducible show wpList _ _ _ (_ :: _) _ _; refine wpList_stop 11 rfl ?_)
      refine Lib.hid ?_
      refine wpList_allocW rfl (.cells lwZ 49) wr.heap.size rfl (alloc_line _ _ _ _ _ _) ?_
      refine Hid.out ?_
      refine Lib.hid ?_
      go_wp2_with (with_reducible show wpList _ _ _ (_ :: _) _ _; refine wpList_stopS rfl ?_)
      refine Lib.hid ?_
      refine wpList_store_mid rfl 49 (.tmp 11) (.tmp 22) rfl wr.heap.size 0 (lwX y o n s A2 m c) (by rfl) (by rfl) hth (by kernel_rfl) (lwC_one _ _ _ _ _ _ _) ?_; rw [← hV.out]
      refine Hid.out ?_
      cases a1 : (y.k == 1)
      rotate_left
      · skip
        have hF : S = 2 + 2 * f := by have e1 : y.k = 1 := eq_of_beq a1; rw [HS.out, if_pos (by omega)]; obtain ⟨h1, h2⟩ := hf; omega
        have hq : nextN y q = q := by have e1 : y.k = 1 := eq_of_beq a1; rw [HK.out]; first | rw [if_pos e1] | rw [if_neg (by omega)]
        have ho : 0 ≤ f ∧ f ≤ 2 := hf
        clear HS HK
        subst hF
        refine Lib.hid ?_
        go_wp2_with (fail)
        ((with_reducible refine (HFm.out).mono ?_); rintro e w5 ⟨rfl, rfl⟩)
        go_wp2_with (fail)
        first
          | (go_roundw; case rel => exact ⟨i + 1, q, a + (2 + 2 * f), by go_num, by first | go_num | (simp; done), by go_num, by omega, by omega, a1'.1, a1'.2, by rw [← hq]; exact HE2, rowX, bX⟩; case measure => (simp [intOf]; omega))
          | exact ⟨⟨i + 1, q, a + (2 + 2 * f), by go_num, by first | go_num | (simp; done), by go_num, by omega, by omega, a1'.1, a1'.2, by rw [← hq]; exact HE2, rowX, bX⟩, by simp [intOf]; omega⟩
      cases a2 : (y.k == 2)
      rotate_left
      · skip
        have hF : S = 2 + 2 * f := by have n1 : y.k ≠ 1 := ne_of_beq_false a1; have e1 : y.k = 2 := eq_of_beq a2; rw [HS.out, if_pos (by omega)]; obtain ⟨h1, h2⟩ := hf; omega
        have hq : nextN y q = q := by have n1 : y.k ≠ 1 := ne_of_beq_false a1; have e1 : y.k = 2 := eq_of_beq a2; rw [HK.out]; first | rw [if_pos e1] | rw [if_neg (by omega)]
        have ho : 0 ≤ f ∧ f ≤ 2 := hf
        clear HS HK
        subst hF
        refine Lib.hid ?_
        go_wp2_with (fail)
        ((with_reducible refine (HFm.out).mono ?_); rintro e w5 ⟨rfl, rfl⟩)
        go_wp2_with (fail)
        first
          | (go_roundw; case rel => exact ⟨i + 1, q, a + (2 + 2 * f), by go_num, by first | go_num | (simp; done), by go_num, by omega, by omega, a1'.1, a1'.2, by rw [← hq]; exact HE2, rowX, bX⟩; case measure => (simp [intOf]; omega))
          | exact ⟨⟨i + 1, q, a + (2 + 2 * f), by go_num, by first | go_num | (simp; done), by go_num, by omega, by omega, a1'.1, a1'.2, by rw [← hq]; exact HE2, rowX, bX⟩, by simp [intOf]; omega⟩
      cases a3 : (y.k == 3)
      rotate_left
      · skip
        have hF : S = max y.sz 0 := by have n1 : y.k ≠ 1 := ne_of_beq_false a1; have n2 : y.k ≠ 2 := ne_of_beq_false a2; have e1 : y.k = 3 := eq_of_beq a3; rw [HS.out, if_neg (by omega), if_pos (by omega)]
        have hq : nextN y q = q := by have n1 : y.k ≠ 1 := ne_of_beq_false a1; have n2 : y.k ≠ 2 := ne_of_beq_false a2; have e1 : y.k = 3 := eq_of_beq a3; rw [HK.out]; first | rw [if_pos e1] | rw [if_neg (by omega)]
        clear HS HK
        by_cases h0 : 0 ≤ y.sz
        · have hF2 : S = y.sz := by omega
          clear hF
          subst hF2
          refine Lib.hid ?_
          go_wp2_with (fail)
          first
            | (go_roundw; case rel => exact ⟨i + 1, q, a + y.sz, by go_num, by first | go_num | (simp; done), by go_num, by omega, by omega, a1'.1, a1'.2, by rw [← hq]; exact HE2, rowX, bX⟩; case measure => (simp [intOf]; omega))
            | exact ⟨⟨i + 1, q, a + y.sz, by go_num, by first | go_num | (simp; done), by go_num, by omega, by omega, a1'.1, a1'.2, by rw [← hq]; exact HE2, rowX, bX⟩, by simp [intOf]; omega⟩
        · have hF2 : S = 0 := by omega
          clear hF
          subst hF2
          refine Lib.hid ?_
          go_wp2_with (fail)
          first
            | (go_roundw; case rel => exact ⟨i + 1, q, a + 0, by go_num, by first | go_num | (simp; done), by go_num, by omega, by omega, a1'.1, a1'.2, by rw [← hq]; exact HE2, rowX, bX⟩; case measure => (simp [intOf]; omega))
            | exact ⟨⟨i + 1, q, a + 0, by go_num, by first | go_num | (simp; done), by go_num, by omega, by omega, a1'.1, a1'.2, by rw [← hq]; exact HE2, rowX, bX⟩, by simp [intOf]; omega⟩
      cases a7 : (y.k == 7)
      rotate_left
      · skip
        have hF : S = max y.sz 0 := by have n1 : y.k ≠ 1 := ne_of_beq_false a1; have n2 : y.k ≠ 2 := ne_of_beq_false a2; have n3 : y.k ≠ 3 := ne_of_beq_false a3; have e1 : y.k = 7 := eq_of_beq a7; rw [HS.out, if_neg (by omega), if_pos (by omega)]
        have hq : nextN y q = q := by have n1 : y.k ≠ 1 := ne_of_beq_false a1; have n2 : y.k ≠ 2 := ne_of_beq_false a2; have n3 : y.k ≠ 3 := ne_of_beq_false a3; have e1 : y.k = 7 := eq_of_beq a7; rw [HK.out]; first | rw [if_pos e1] | rw [if_neg (by omega)]
        clear HS HK
        by_cases h0 : 0 ≤ y.sz
        · have hF2 : S = y.sz := by omega
          clear hF
          subst hF2
          refine Lib.hid ?_
          go_wp2_with (fail)
          first
            | (go_roundw; case rel => exact ⟨i + 1, q, a + y.sz, by go_num, by first | go_num | (simp; done), by go_num, by omega, by omega, a1'.1, a1'.2, by rw [← hq]; exact HE2, rowX, bX⟩; case measure => (simp [intOf]; omega))
            | exact ⟨⟨i + 1, q, a + y.sz, by go_num, by first | go_num | (simp; done), by go_num, by omega, by omega, a1'.1, a1'.2, by rw [← hq]; exact HE2, rowX, bX⟩, by simp [intOf]; omega⟩
        · have hF2 : S = 0 := by omega
          clear hF
          subst hF2
          refine Lib.hid ?_
          go_wp2_with (fail)
          first
            | (go_roundw; case rel => exact ⟨i + 1, q, a + 0, by go_num, by first | go_num | (simp; done), by go_num, by omega, by omega, a1'.1, a1'.2, by rw [← hq]; exact HE2, rowX, bX⟩; case measure => (simp [intOf]; omega))
            | exact ⟨⟨i + 1, q, a + 0, by go_num, by first | go_num | (simp; done), by go_num, by omega, by omega, a1'.1, a1'.2, by rw [← hq]; exact HE2, rowX, bX⟩, by simp [intOf]; omega⟩
      cases a4 : (y.k == 4)
      rotate_left
      · skip
        have hF : S = leadI a y.sz := by have n1 : y.k ≠ 1 := ne_of_beq_false a1; have n2 : y.k ≠ 2 := ne_of_beq_false a2; have n3 : y.k ≠ 3 := ne_of_beq_false a3; have n7 : y.k ≠ 7 := ne_of_beq_false a7; have e1 : y.k = 4 := eq_of_beq a4; rw [HS.out, if_neg (by omega), if_neg (by omega), if_pos e1]
        have hq : nextN y q = q := by have n1 : y.k ≠ 1 := ne_of_beq_false a1; have n2 : y.k ≠ 2 := ne_of_beq_false a2; have n3 : y.k ≠ 3 := ne_of_beq_false a3; have n7 : y.k ≠ 7 := ne_of_beq_false a7; have e1 : y.k = 4 := eq_of_beq a4; rw [HK.out]; first | rw [if_pos e1] | rw [if_neg (by omega)]
        clear HS HK
        have HLd2 := HLd.out
        rw [← hF] at HLd2
        clear hF
        refine Lib.hid ?_
        go_wp2_with (fail)
        ((with_reducible refine (HLd2).mono ?_); rintro e w5 ⟨rfl, rfl⟩)
        go_wp2_with (fail)
        first
          | (go_roundw; case rel => exact ⟨i + 1, q, a + S, by go_num, by first | go_num | (simp; done), by go_num, by omega, by omega, a1'.1, a1'.2, by rw [← hq]; exact HE2, rowX, bX⟩; case measure => (simp [intOf]; omega))
          | exact ⟨⟨i + 1, q, a + S, by go_num, by first | go_num | (simp; done), by go_num, by omega, by omega, a1'.1, a1'.2, by rw [← hq]; exact HE2, rowX, bX⟩, by simp [intOf]; omega⟩
      cases a5 : (y.k == 5)
      rotate_left
      · skip
        have hF : S = poolSz pq a := by have n1 : y.k ≠ 1 := ne_of_beq_false a1; have n2 : y.k ≠ 2 := ne_of_beq_false a2; have n3 : y.k ≠ 3 := ne_of_beq_false a3; have n7 : y.k ≠ 7 := ne_of_beq_false a7; have n4 : y.k ≠ 4 := ne_of_beq_false a4; have e1 : y.k = 5 := eq_of_beq a5; rw [HS.out, if_neg (by omega), if_neg (by omega), if_neg (by omega), if_pos e1]
        have hq : nextN y q = q + 1 := by have n1 : y.k ≠ 1 := ne_of_beq_false a1; have n2 : y.k ≠ 2 := ne_of_beq_false a2; have n3 : y.k ≠ 3 := ne_of_beq_false a3; have n7 : y.k ≠ 7 := ne_of_beq_false a7; have n4 : y.k ≠ 4 := ne_of_beq_false a4; have e1 : y.k = 5 := eq_of_beq a5; rw [HK.out]; first | rw [if_pos e1] | rw [if_neg (by omega)]
        clear HS HK
        have HPz2 := HPz.out
        rw [← hF] at HPz2
        have HPz3 := Lib.hid HPz2
        clear hF HPz2
        refine Lib.hid ?_
        go_wp2_with (fail)
        ((with_reducible refine (HPl.out).mono ?_); rintro e w5 ⟨⟨Ai, ci, rfl, _⟩, rfl⟩)
        go_wp2_with (fail)
        ((with_reducible refine (HPz3.out Ai ci).mono ?_); rintro e w6 ⟨rfl, rfl⟩)
        go_wp2_with (fail)
        first
          | (go_roundw; case rel => exact ⟨i + 1, (q + 1), a + S, by go_num, by first | go_num | (simp; done), by go_num, by omega, by omega, a1'.1, a1'.2, by rw [← hq]; exact HE2, rowX, bX⟩; case measure => (simp [intOf]; omega))
          | exact ⟨⟨i + 1, (q + 1), a + S, by go_num, by first | go_num | (simp; done), by go_num, by omega, by omega, a1'.1, a1'.2, by rw [← hq]; exact HE2, rowX, bX⟩, by simp [intOf]; omega⟩
      have hF : S = 0 := by have n1 : y.k ≠ 1 := ne_of_beq_false a1; have n2 : y.k ≠ 2 := ne_of_beq_false a2; have n3 : y.k ≠ 3 := ne_of_beq_false a3; have n7 : y.k ≠ 7 := ne_of_beq_false a7; have n4 : y.k ≠ 4 := ne_of_beq_false a4; have n5 : y.k ≠ 5 := ne_of_beq_false a5; rw [HS.out, if_neg (by omega), if_neg (by omega), if_neg (by omega), if_neg (by omega)]
      have hq : nextN y q = q := by have n1 : y.k ≠ 1 := ne_of_beq_false a1; have n2 : y.k ≠ 2 := ne_of_beq_false a2; have n3 : y.k ≠ 3 := ne_of_beq_false a3; have n7 : y.k ≠ 7 := ne_of_beq_false a7; have n4 : y.k ≠ 4 := ne_of_beq_false a4; have n5 : y.k ≠ 5 := ne_of_beq_false a5; rw [HK.out]; first | rw [if_pos e1] | rw [if_neg (by omega)]
      clear HS HK
      subst hF
      have rowY := row_zero rowV HE1.out
      refine Lib.hid ?_
      go_wp2_with (fail)
      first
        | (go_roundw; case rel => exact ⟨i + 1, q, a + 0, by go_num, by first | go_num | (simp; done), by go_num, by omega, by omega, a1'.1, a1'.2, by rw [← hq]; exact HE2, rowY, bWV⟩; case measure => (simp [intOf]; omega))
        | exact ⟨⟨i + 1, q, a + 0, by go_num, by first | go_num | (simp; done), by go_num, by omega, by omega, a1'.1, a1'.2, by rw [← hq]; exact HE2, rowY, bWV⟩, by simp [intOf]; omega⟩
    · obtain rfl : i = L.length := by omega
      have u0 : decide ((L.length : Int) < (L.length : Int)) = false := decide_eq_false (by omega)
      have hE := he.out
      rw [List.drop_eq_nil_of_le (Nat.le_refl _), sizesF] at hE
      obtain ⟨hE1, _⟩ := drop_getD hE.symm
      have hsv : w.heap.size ≤ wr.heap.size := hb.size
      have hpool := pool_l P q hPl AP cP wr ((hAP.below hb (Nat.le_refl _)).more hsv)
      have hpz := fun A c => poolSz_l (P.getD q []) a (getD_pool HP.out q) A c wr
      generalize P.getD q [] = pq at hpool hpz hE1
      generalize poolSz pq a = S at hpz hE1
      have hli : L.length < L.length + 1 := Nat.lt_succ_self _
      have fz := hrow.frozen L.length
      have cz := hrow.cell hli
      rw [if_neg (Nat.lt_irrefl _)] at cz
      have rowX : (wr.setCell ⟨w.heap.size, L.length, none⟩ (.int .i64 S)).rowIs w.heap.size 3 (L.length + 1) (fun j => .int .i64 (R.getD j 0)) := (row_put hrow hE1).congr fun j hj => by rw [if_pos hj]
      have hret := intRet_row (B := w.heap.size) R HL.out rowX (Nat.le_refl _)
      have bX := hb.setCell (p := ⟨w.heap.size, L.length, none⟩) (Nat.le_refl _) (.int .i64 S)
      have HPz := Lib.hid hpz
      clear he hE hE1 hrow rowX hpz
      go_wp2_with (fail)
      ((with_reducible refine hpool.mono ?_); rintro e w' ⟨⟨Ai, ci, rfl, _⟩, rfl⟩)
      go_wp2_with (fail)
      ((with_reducible refine (HPz.out Ai ci).mono ?_); rintro e w' ⟨rfl, rfl⟩)
      go_wp2_with (fail)
      refine bodyPost_ret (results_tmp rfl _ _ _) rfl ?_
      exact ⟨hret, bX⟩
end Go.Proofs.YtpdkpkabdkefcaaGreatDoor
namespace Go.Proofs.YtpdkpkabdkefcaaGreatDoor
open Go.Sx Go.ChangeShapes Go.WideShapes Go.RowKit Go.Joins Go.Deep Go.Rp
theorem addrF_bd : ∀ (L : List Lw) (S : List Int) (a : Int), (∀ s ∈ S, 0 ≤ s ∧ s ≤ 1500000) → 0 ≤ a → ∀ x ∈ addrF L S a, 0 ≤ x ∧ x ≤ a + L.length * 1500000
  | [], _, a, _, ha, x, hx => by
    simp only [addrF, List.mem_cons, List.not_mem_nil, or_false] at hx
    subst hx
    simp; exact ha
  | y :: r, S, a, hS, ha, x, hx => by
    rw [addrF] at hx
    have h0 : 0 ≤ S.headD 0 ∧ S.headD 0 ≤ 1500000 := by
      cases S with
      | nil => simp
      | cons s t => exact hS s (by simp)
    rcases List.mem_cons.1 hx with rfl | hx
    · simp only [List.length_cons]; push_cast; omega
    · have := addrF_bd r S.tail (a + max (S.headD 0) 0) (fun s hs => hS s (List.mem_of_mem_tail hs)) (by omega) x hx
      simp only [List.length_cons]; push_cast; omega
set_option maxHeartbeats 8000000 in
theorem addr_l (L : List Lw) (hL : L.length ≤ 1000) (S : List Int) (hSl : S.length = L.length + 1) (hS : ∀ s ∈ S, 0 ≤ s ∧ s ≤ 1500000) (A AS : Option Addr) (cA cS : Nat) (w : World) (hAS : IAt w w.heap.size AS S) :
    Calls Tryz.prog 15 #[.slice A L.length cA, .slice AS S.length cS] w fun e w' => IntRet w.heap.size (addrF L S 0) e w' ∧ Below w.heap.size w w' := by
  have hlen := addrF_len L S 0
  have hbd := addrF_bd L S 0 hS (by omega)
  have h0 : (addrF L S 0).getD 0 0 = 0 := by cases L <;> rfl
  generalize hR : addrF L S 0 = R at hlen hbd h0
  have HR := Lib.hid hR
  have HL := Lib.hid hlen
  have HB := Lib.hid hbd
  have HS := Lib.hid hS
  have HSL := Lib.hid hSl
  clear hR hlen hbd hS hSl
  have hi1 : IntKind.i64.wrap ((L.length : Int) + 1) = (L.length : Int) + 1 := by rw [IntWalk.i64_left]; unfold wrap64; omega
  obtain ⟨i0, hi0, hz0, hz1, hz2⟩ := info_parts intInfo
  obtain ⟨W, hW⟩ : ∃ W, Hid (W = w.alloc (.cells (madeCells #[.int .i64 0] (L.length + 1)) 3)) := ⟨_, Lib.hid rfl⟩
  have hrow0 : W.rowIs w.heap.size 3 (L.length + 1) fun j => .int .i64 (if j < 0 + 1 then R.getD j 0 else 0) := by
    rw [hW.out]
    exact (World.rowIs_made w (.int .i64 0) (L.length + 1) 3).congr fun j _ => by
      by_cases e : j = 0
      · subst e; rw [if_pos (by omega), h0]
      · rw [if_neg (by omega)]
  have hbW : Below w.heap.size w W := by rw [hW.out]; exact (Below.refl _ _).alloc (Nat.le_refl _) _
  go_enter Tryz.func15, Tryz.ntmps15
  go_wp2_with (with_reducible show wpList _ _ _ (_ :: _) _ _; refine wpList_stop 10 rfl ?_)
  refine Lib.hid ?_
  refine wpList_make_row w rfl _ _ 26 rfl 3 i0 _ Tryz.underlying26 hi0 hz0 hz1 rfl .i64 .i64 (L.length + 1) (by rfl) (by rfl) (by rw [hz2]; omega) (by omega) ?_
  rw [← hW.out]
  clear hi0 hz0 hz1 hz2 h0
  go_wp2_with (fail)
  go_loopw [13] (fun t wr => ∃ i : Nat, t = .int .i64 i ∧ i ≤ L.length ∧ Hid (addrF (L.drop i) (S.drop i) (R.getD i 0) = R.drop i) ∧ wr.rowIs w.heap.size 3 (L.length + 1) (fun j => .int .i64 (if j < i + 1 then R.getD j 0 else 0)) ∧ Below w.heap.size w wr) (fun t _ => L.length - (intOf t).toNat)
  case atStart => exact ⟨0, rfl, Nat.zero_le _, Lib.hid (by rw [List.drop_zero, List.drop_zero, List.drop_zero]; have h := HR.out; subst h; cases L <;> rfl), hrow0, hbW⟩
  case round =>
    obtain ⟨i, rfl, hi, he, hrow, hb⟩ := hrel
    clear hrow0 hbW HR
    by_cases hlt : i < L.length
    · have u0 : decide ((i : Int) < (L.length : Int)) = true := decide_eq_true (by omega)
      have hlS : i < S.length := by have := HSL.out; omega
      have u1 : decide ((i : Int) < (S.length : Int)) = true := decide_eq_true (by omega)
      obtain ⟨g, off, rfl, hg, hc⟩ := hAS.at_ hlS
      have hE := he.out
      rw [List.drop_eq_getElem_cons hlt, addrF, headD_drop, List.tail_drop] at hE
      obtain ⟨_, hE2⟩ := drop_getD hE.symm
      have hgS : S.getD i 0 = S[i] := by rw [List.getD_eq_getElem?_getD, List.getElem?_eq_getElem hlS]; rfl
      have hs := HS.out _ (List.getElem_mem hlS)
      rw [hgS] at hE2
      generalize S[i] = s at hc hs hE2
      have hm : max s 0 = s := by omega
      rw [hm] at hE2
      have hnext : R.getD (i + 1) 0 = R.getD i 0 + s := by
        have h := congrArg List.head? hE2
        rw [List.head?_drop] at h
        rw [List.getD_eq_getElem?_getD, h]
        cases L.drop (i + 1) <;> rfl
      have hi1 : i < R.length := by rw [HL.out]; omega
      have hbi : 0 ≤ R.getD i 0 ∧ R.getD i 0 ≤ 0 + L.length * 1500000 := mem_getD HB.out (by omega) i
      have li : i < L.length + 1 := by omega
      have lj : i + 1 < L.length + 1 := by omega
      have ci := hrow.cell li
      rw [if_pos (Nat.lt_succ_self i)] at ci
      have cj := hrow.cell lj
      rw [if_neg (Nat.lt_irrefl _)] at cj
      have fz := hrow.frozen (i + 1)
      have cs : wr.cell? ⟨g, off + i, none⟩ = some (.int .i64 s) := (hb.cell (p := ⟨g, off + i, none⟩) hg).trans hc
      have row1 := hrow.set (i + 1) (.int .i64 (R.getD i 0))
      have b1 := hb.setCell (p := ⟨w.heap.size, i + 1, none⟩) (Nat.le_refl _) (.int .i64 (R.getD i 0))
      obtain ⟨V, hV⟩ : ∃ V, Hid (V = wr.setCell ⟨w.heap.size, i + 1, none⟩ (.int .i64 (R.getD i 0))) := ⟨_, Lib.hid rfl⟩
      have csV : V.cell? ⟨g, off + i, none⟩ = some (.int .i64 s) := by rw [hV.out, World.cell?_of_block (w := wr) (Below.heap_setCell _ _ _ _ (by show g ≠ w.heap.size; omega))]; exact cs
      rw [← hV.out] at row1 b1
      have cjV := row1.cell lj
      rw [if_pos rfl] at cjV
      have fzV := row1.frozen (i + 1)
      have row2 := (row_again row1 hnext).drew
      have b2 := (b1.setCell (p := ⟨w.heap.size, i + 1, none⟩) (Nat.le_refl _) (.int .i64 (R.getD i 0 + s))).drew
      have HE2 : Hid (addrF (L.drop (i + 1)) (S.drop (i + 1)) (R.getD (i + 1) 0) = R.drop (i + 1)) := Lib.hid (by rw [hnext]; exact hE2.symm)
      have hw1 : IntKind.i64.wrap ((i : Int) + 1) = (i : Int) + 1 := by rw [IntWalk.i64_left]; unfold wrap64; omega
      have hX : IntKind.i64.wrap (R.getD i 0 + if s < 0 then 0 else s) = R.getD i 0 + s := by rw [if_neg (by omega), IntWalk.i64_left]; unfold wrap64; omega
      generalize R.getD i 0 = a at ci hbi hV cjV row2 b2 hX
      clear hE he hE2 hnext row1 hrow hc hm hgS
      go_wp2_with (first | rw [← hV.out] | fail)
      go_region_with (fail)
      all_goals (try rw [hX])
      all_goals go_wp2_with (fail)
      all_goals first
        | exact ⟨⟨i + 1, by go_num, by omega, HE2, row2, b2⟩, by simp [intOf]; omega⟩
        | (go_roundw; case rel => exact ⟨i + 1, by go_num, by omega, HE2, row2, b2⟩; case measure => (simp [intOf]; omega))
    · obtain rfl : i = L.length := by omega
      have u0 : decide ((L.length : Int) < (L.length : Int)) = false := decide_eq_false (by omega)
      have rowX : wr.rowIs w.heap.size 3 (L.length + 1) (fun j => .int .i64 (R.getD j 0)) := hrow.congr fun j hj => by rw [if_pos hj]
      have hret := intRet_row (B := w.heap.size) R HL.out rowX (Nat.le_refl _)
      clear hrow rowX he
      go_wp2_with fail
      refine bodyPost_ret (results_tmp rfl _ _ _) rfl ?_
      exact ⟨hret, hb⟩
end Go.Proofs.YtpdkpkabdkefcaaGreatDoor
namespace Go.Proofs.YtpdkpkabdkefcaaGreatDoor
open Go.Sx Go.ChangeShapes Go.WideShapes Go.RowKit Go.Joins Go.Deep Go.Rp
def idxF {α : Type} (p : α → Bool) : List α → Option Nat
  | [] => none
  | x :: r => if p x then some 0 else (idxF p r).map (· + 1)
def idxI (o : Option Nat) : Int := match o with | some k => (k : Int) | none => -1
theorem idxF_at {α : Type} {p : α → Bool} {L : List α} {i : Nat} (h : i < L.length) {o : Option Nat} (he : (idxF p (L.drop i)).map (· + i) = o) : if p L[i] then o = some i else (idxF p (L.drop (i + 1))).map (· + (i + 1)) = o := by
  rw [List.drop_eq_getElem_cons h, idxF] at he
  split
  · rename_i hp
    rw [if_pos hp] at he
    rw [← he]; simp
  · rename_i hp
    rw [if_neg hp] at he
    rw [← he]
    cases idxF p (L.drop (i + 1)) with
    | none => rfl
    | some k => simp; omega
theorem idxF_yes {α : Type} {p : α → Bool} {L : List α} {i : Nat} (h : i < L.length) {o : Option Nat} (he : (idxF p (L.drop i)).map (· + i) = o) (hp : p L[i] = true) : o = some i := by
  have := idxF_at h he
  rwa [if_pos hp] at this
theorem idxF_no {α : Type} {p : α → Bool} {L : List α} {i : Nat} (h : i < L.length) {o : Option Nat} (he : (idxF p (L.drop i)).map (· + i) = o) (hp : p L[i] = false) : Hid ((idxF p (L.drop (i + 1))).map (· + (i + 1)) = o) := by
  have := idxF_at h he
  rw [if_neg (by rw [hp]; decide)] at this
  exact Lib.hid this
theorem placeN_idx : ∀ L : List Lw, placeN L = (idxF (fun y => y.k == 5) L).getD L.length
  | [] => rfl
  | y :: r => by
    rw [placeN, idxF, placeN_idx r]
    by_cases h : y.k = 5
    · rw [if_pos h, if_pos (by simpa using h)]; rfl
    · rw [if_neg h, if_neg (by simpa using h)]
      cases idxF (fun y => y.k == 5) r <;> simp
def labP (name : Bs) (y : Lw) : Bool := !name.isEmpty && y.lab == name
theorem labN_idx (name : Bs) : ∀ L : List Lw, labN name L = idxF (labP name) L
  | [] => rfl
  | y :: r => by
    rw [labN, idxF, labN_idx name r]
    have h : (name ≠ [] ∧ y.lab = name) ↔ labP name y = true := by
      unfold labP
      rw [Bool.and_eq_true, beq_iff_eq]
      cases name <;> simp
    by_cases h1 : labP name y = true
    · rw [if_pos (h.2 h1), if_pos h1]
    · rw [if_neg (fun h2 => h1 (h.1 h2)), if_neg h1]
theorem valN_idx (v : Int) : ∀ p : List Int, valN v p = idxF (fun x => x == v) p
  | [] => rfl
  | x :: r => by
    rw [valN, idxF, valN_idx v r]
    by_cases h : x = v
    · rw [if_pos h, if_pos (by simpa using h)]
    · rw [if_neg h, if_neg (by simpa using h)]
theorem pooled1_l (y : Lw) (o n : Int) (s : Bs) (A2 : Option Addr) (m c : Nat) (w : World) : Calls Tryz.prog 94 #[.agg (lwX y o n s A2 m c)] w fun e w' => e = .returned (.bool (y.k == 5)) ∧ Below w.heap.size w w' := by
  obtain ⟨W, hW⟩ : ∃ W, Hid (W = w.alloc (.cells (lwX y o n s A2 m c) 49)) := ⟨_, Lib.hid rfl⟩
  have b0 : Below w.heap.size w W := by rw [hW.out]; exact (Below.refl _ _).alloc (Nat.le_refl _) _
  have hw0 : W.heap[w.heap.size]? = some (.cells (lwX y o n s A2 m c) 49 (0, 0)) := by rw [hW.out]; exact heap_alloc_new w _
  obtain ⟨_, d1, _⟩ := line_cells hw0
  clear hw0
  dsimp only [lwX, lwC] at hW ⊢
  go_enter Tryz.func94, Tryz.ntmps94
  go_wp2_with (first | rw [← hW.out] | fail)
  exact bodyPost_ret (results_tmp rfl _ _ _) rfl ⟨rfl, b0⟩
theorem target1_l (name : Bs) (y : Lw) (o n : Int) (s : Bs) (A2 : Option Addr) (m c : Nat) (b : Nat) (w : World) (hb : b < w.heap.size) (hc : w.cell? ⟨b, 0, none⟩ = some (.string (tx name))) :
    Calls Tryz.prog 95 #[.agg (lwX y o n s A2 m c), .pointer (some ⟨b, 0, none⟩)] w fun e w' => e = .returned (.bool (labP name y)) ∧ Below w.heap.size w w' := by
  have hR : labP name y = (!name.isEmpty && y.lab == name) := rfl
  generalize labP name y = R at hR
  have HR := Lib.hid hR
  clear hR
  obtain ⟨W, hW⟩ : ∃ W, Hid (W = w.alloc (.cells (lwX y o n s A2 m c) 49)) := ⟨_, Lib.hid rfl⟩
  have b0 : Below w.heap.size w W := by rw [hW.out]; exact (Below.refl _ _).alloc (Nat.le_refl _) _
  have hw0 : W.heap[w.heap.size]? = some (.cells (lwX y o n s A2 m c) 49 (0, 0)) := by rw [hW.out]; exact heap_alloc_new w _
  obtain ⟨d0, _⟩ := line_cells hw0
  have c0 : W.cell? ⟨b, 0, none⟩ = some (.string (tx name)) := (b0.cell (p := ⟨b, 0, none⟩) hb).trans hc
  clear hw0
  dsimp only [lwX, lwC] at hW ⊢
  go_enter Tryz.func95, Tryz.ntmps95
  cases name with
  | nil =>
    go_wp2_with (first | rw [← hW.out] | fail)
    exact bodyPost_ret (results_tmp rfl _ _ _) rfl ⟨by rw [HR.out]; rfl, b0⟩
  | cons x r =>
    have t1 := tx_beq y.lab (x :: r)
    have t2 := tx_beq (x :: r) []
    cases t3 : (y.lab == x :: r)
    all_goals rw [t3] at t1
    all_goals go_wp2_with (first | rw [← hW.out] | fail)
    all_goals exact bodyPost_ret (results_tmp rfl _ _ _) rfl ⟨by rw [HR.out, t3]; rfl, b0⟩
set_option maxHeartbeats 4000000 in
theorem idxPool_l (L : List Lw) (hL : L.length ≤ 1000000) (A : Option Addr) (cap : Nat) (w : World) (K : Nat → Prop) (hA : LsAt w K A L) (hK : ∀ g, K g → g < w.heap.size) :
    Calls Tryz.prog 93 #[.slice A L.length cap, .func (.func 94) #[] #[]] w fun e w' => e = .returned (.int .i64 (idxI (idxF (fun y : Lw => y.k == 5) L))) ∧ Below w.heap.size w w' := by
  generalize hR : idxF (fun y : Lw => y.k == 5) L = R
  have HR : Hid ((idxF (fun y : Lw => y.k == 5) (L.drop 0)).map (· + 0) = R) := Lib.hid (by rw [List.drop_zero, hR]; cases R <;> rfl)
  clear hR
  go_enter Tryz.func93, Tryz.ntmps93
  go_wp2_with (fail)
  go_loopw [8] (fun t wr => ∃ i : Nat, t = .int .i64 i ∧ i ≤ L.length ∧ Hid ((idxF (fun y : Lw => y.k == 5) (L.drop i)).map (· + i) = R) ∧ Below w.heap.size w wr) (fun t _ => L.length - (intOf t).toNat)
  case atStart => exact ⟨0, rfl, Nat.zero_le _, HR, Below.refl _ _⟩
  case round =>
    obtain ⟨i, rfl, hi, he, hb⟩ := hrel
    clear HR
    by_cases hlt : i < L.length
    · have u0 : decide ((i : Int) < (L.length : Int)) = true := decide_eq_true (by omega)
      have hY : (L[i].k == 5) = true → R = some i := idxF_yes hlt he.out
      have hN : (L[i].k == 5) = false → _ := idxF_no hlt he.out
      obtain ⟨g, off, o, n, s, A2, m, c, rfl, hgl, hok, hline⟩ := hA.line hK hlt
      have hl0 := (hline wr hb).1
      clear hline hok
      generalize L[i] = y at hY hN hl0
      have HY := Lib.hid hY
      have HN := Lib.hid hN
      clear he hY hN
      have hcl := pooled1_l y o n s A2 m c wr
      dsimp only [lwX, lwC] at hl0 hcl
      go_wp2_with (with_reducible show wpList _ _ _ (_ :: _) _ _; refine wpList_stop 15 rfl ?_)
      refine Lib.hid ?_
      refine wpList_load_row rfl 49 (.tmp 14) rfl g (off + i * 19) (by rfl) _ hl0 _ Tryz.underlying49 rfl (by kernel_rfl) ?_
      go_wp2_with (fail)
      ((with_reducible refine (hcl).mono ?_); rintro e w5 ⟨rfl, hb5⟩)
      have b2 := hb.trans (hb5.mono hb.size)
      all_goals (cases hp : (y.k == 5))
      · have hN := HN.out hp
        skip
        go_wp2_with (fail)
        first
          | exact ⟨⟨i + 1, by go_num, by omega, hN, b2⟩, by simp [intOf]; omega⟩
          | (go_roundw; case rel => exact ⟨i + 1, by go_num, by omega, hN, b2⟩; case measure => (simp [intOf]; omega))
      · have hY := HY.out hp
        subst hY
        skip
        go_wp2_with (fail)
        exact bodyPost_ret (results_tmp rfl _ _ _) rfl ⟨rfl, b2⟩
    · obtain rfl : i = L.length := by omega
      have u0 : decide ((L.length : Int) < (L.length : Int)) = false := decide_eq_false (by omega)
      have hE := he.out
      rw [List.drop_eq_nil_of_le (Nat.le_refl _)] at hE
      have hE2 : R = none := hE.symm
      subst hE2
      clear he hE
      go_wp2_with (fail)
      exact bodyPost_ret (results_tmp rfl _ _ _) rfl ⟨rfl, hb⟩
set_option maxHeartbeats 4000000 in
theorem idxLab_l (name : Bs) (b : Nat) (L : List Lw) (hL : L.length ≤ 1000000) (A : Option Addr) (cap : Nat) (w : World) (K : Nat → Prop) (hA : LsAt w K A L) (hK : ∀ g, K g → g < w.heap.size) (hb0 : b < w.heap.size) (hc0 : w.cell? ⟨b, 0, none⟩ = some (.string (tx name))) :
    Calls Tryz.prog 93 #[.slice A L.length cap, .func (.func 95) #[] #[.pointer (some ⟨b, 0, none⟩)]] w fun e w' => e = .returned (.int .i64 (idxI (idxF (labP name) L))) ∧ Below w.heap.size w w' := by
  generalize hR : idxF (labP name) L = R
  have HR : Hid ((idxF (labP name) (L.drop 0)).map (· + 0) = R) := Lib.hid (by rw [List.drop_zero, hR]; cases R <;> rfl)
  clear hR
  go_enter Tryz.func93, Tryz.ntmps93
  go_wp2_with (fail)
  go_loopw [8] (fun t wr => ∃ i : Nat, t = .int .i64 i ∧ i ≤ L.length ∧ Hid ((idxF (labP name) (L.drop i)).map (· + i) = R) ∧ Below w.heap.size w wr) (fun t _ => L.length - (intOf t).toNat)
  case atStart => exact ⟨0, rfl, Nat.zero_le _, HR, Below.refl _ _⟩
  case round =>
    obtain ⟨i, rfl, hi, he, hb⟩ := hrel
    clear HR
    by_cases hlt : i < L.length
    · have u0 : decide ((i : Int) < (L.length : Int)) = true := decide_eq_true (by omega)
      have hY : labP name L[i] = true → R = some i := idxF_yes hlt he.out
      have hN : labP name L[i] = false → _ := idxF_no hlt he.out
      obtain ⟨g, off, o, n, s, A2, m, c, rfl, hgl, hok, hline⟩ := hA.line hK hlt
      have hl0 := (hline wr hb).1
      clear hline hok
      generalize L[i] = y at hY hN hl0
      have HY := Lib.hid hY
      have HN := Lib.hid hN
      clear he hY hN
      have hcl := target1_l name y o n s A2 m c b wr (Nat.lt_of_lt_of_le hb0 hb.size) ((hb.cell (p := ⟨b, 0, none⟩) hb0).trans hc0)
      dsimp only [lwX, lwC] at hl0 hcl
      go_wp2_with (with_reducible show wpList _ _ _ (_ :: _) _ _; refine wpList_stop 15 rfl ?_)
      refine Lib.hid ?_
      refine wpList_load_row rfl 49 (.tmp 14) rfl g (off + i * 19) (by rfl) _ hl0 _ Tryz.underlying49 rfl (by kernel_rfl) ?_
      go_wp2_with (fail)
      ((with_reducible refine (hcl).mono ?_); rintro e w5 ⟨rfl, hb5⟩)
      have b2 := hb.trans (hb5.mono hb.size)
      all_goals (cases hp : labP name y)
      · have hN := HN.out hp
        skip
        go_wp2_with (fail)
        first
          | exact ⟨⟨i + 1, by go_num, by omega, hN, b2⟩, by simp [intOf]; omega⟩
          | (go_roundw; case rel => exact ⟨i + 1, by go_num, by omega, hN, b2⟩; case measure => (simp [intOf]; omega))
      · have hY := HY.out hp
        subst hY
        skip
        go_wp2_with (fail)
        exact bodyPost_ret (results_tmp rfl _ _ _) rfl ⟨rfl, b2⟩
    · obtain rfl : i = L.length := by omega
      have u0 : decide ((L.length : Int) < (L.length : Int)) = false := decide_eq_false (by omega)
      have hE := he.out
      rw [List.drop_eq_nil_of_le (Nat.le_refl _)] at hE
      have hE2 : R = none := hE.symm
      subst hE2
      clear he hE
      go_wp2_with (fail)
      exact bodyPost_ret (results_tmp rfl _ _ _) rfl ⟨rfl, hb⟩
set_option maxHeartbeats 4000000 in
theorem idxInt_l (v : Int) (L : List Int) (hL : L.length ≤ 1000000) (A : Option Addr) (cap : Nat) (w : World) (hA : IAt w w.heap.size A L) :
    Calls Tryz.prog 132 #[.slice A L.length cap, .int .i64 v] w fun e w' => e = .returned (.int .i64 (idxI (idxF (fun x => x == v) L))) ∧ Below w.heap.size w w' := by
  generalize hR : idxF (fun x : Int => x == v) L = R
  have HR : Hid ((idxF (fun x : Int => x == v) (L.drop 0)).map (· + 0) = R) := Lib.hid (by rw [List.drop_zero, hR]; cases R <;> rfl)
  clear hR
  go_enter Tryz.func132, Tryz.ntmps132
  go_wp2_with (fail)
  go_loopw [8] (fun t wr => ∃ i : Nat, t = .int .i64 i ∧ i ≤ L.length ∧ Hid ((idxF (fun x : Int => x == v) (L.drop i)).map (· + i) = R) ∧ Below w.heap.size w wr) (fun t _ => L.length - (intOf t).toNat)
  case atStart => exact ⟨0, rfl, Nat.zero_le _, HR, Below.refl _ _⟩
  case round =>
    obtain ⟨i, rfl, hi, he, hb⟩ := hrel
    clear HR
    by_cases hlt : i < L.length
    · have u0 : decide ((i : Int) < (L.length : Int)) = true := decide_eq_true (by omega)
      have hY : (L[i] == v) = true → R = some i := idxF_yes hlt he.out
      have hN : (L[i] == v) = false → _ := idxF_no hlt he.out
      obtain ⟨g, off, rfl, hg, hc⟩ := hA.at_ hlt
      replace hc := (hb.cell (p := ⟨g, off + i, none⟩) hg).trans hc
      generalize L[i] = y at hY hN hc
      have HY := Lib.hid hY
      have HN := Lib.hid hN
      clear he hY hN
      have b2 := hb
      all_goals (cases hp : (y == v))
      · have hN := HN.out hp
        have hp2 : (v == y) = false := by rw [BEq.comm]; exact hp
        go_wp2_with (fail)
        first
          | exact ⟨⟨i + 1, by go_num, by omega, hN, b2⟩, by simp [intOf]; omega⟩
          | (go_roundw; case rel => exact ⟨i + 1, by go_num, by omega, hN, b2⟩; case measure => (simp [intOf]; omega))
      · have hY := HY.out hp
        subst hY
        have hp2 : (v == y) = true := by rw [BEq.comm]; exact hp
        go_wp2_with (fail)
        exact bodyPost_ret (results_tmp rfl _ _ _) rfl ⟨rfl, b2⟩
    · obtain rfl : i = L.length := by omega
      have u0 : decide ((L.length : Int) < (L.length : Int)) = false := decide_eq_false (by omega)
      have hE := he.out
      rw [List.drop_eq_nil_of_le (Nat.le_refl _)] at hE
      have hE2 : R = none := hE.symm
      subst hE2
      clear he hE
      go_wp2_with (fail)
      exact bodyPost_ret (results_tmp rfl _ _ _) rfl ⟨rfl, hb⟩
end Go.Proofs.YtpdkpkabdkefcaaGreatDoor
namespace Go.Proofs.YtpdkpkabdkefcaaGreatDoor
open Go.Sx Go.ChangeShapes Go.WideShapes Go.RowKit Go.Joins Go.Deep Go.Rp
theorem find_l (v : Int) (p : List Int) (hp : p.length ≤ 1000000) (A : Option Addr) (cap : Nat) (w : World) (hA : IAt w w.heap.size A p) :
    Calls Tryz.prog 91 #[.slice A p.length cap, .int .i64 v] w fun e w' => e = .returned (.int .i64 (idxI (valN v p))) ∧ Below w.heap.size w w' := by
  have h := idxInt_l v p hp A cap w hA
  rw [← valN_idx] at h
  generalize idxI (valN v p) = R at h
  go_enter Tryz.func91, Tryz.ntmps91
  go_wp2_with (fail)
  ((with_reducible refine h.mono ?_); rintro e w1 ⟨rfl, hb⟩)
  go_wp2_with (fail)
  exact bodyPost_ret (results_tmp rfl _ _ _) rfl ⟨rfl, hb⟩
theorem target_l (name : Bs) (L : List Lw) (hL : L.length ≤ 1000000) (A : Option Addr) (cap : Nat) (w : World) (K : Nat → Prop) (hA : LsAt w K A L) (hK : ∀ g, K g → g < w.heap.size) :
    Calls Tryz.prog 63 #[.slice A L.length cap, .string (tx name)] w fun e w' => e = .returned (.int .i64 (idxI (labN name L))) ∧ Below w.heap.size w w' := by
  obtain ⟨W, hW⟩ : ∃ W, Hid (W = w.alloc (.cells #[.string (tx name)] 9)) := ⟨_, Lib.hid rfl⟩
  have b0 : Below w.heap.size w W := by rw [hW.out]; exact (Below.refl _ _).alloc (Nat.le_refl _) _
  have hw0 : W.heap[w.heap.size]? = some (.cells #[.string (tx name)] 9 (0, 0)) := by rw [hW.out]; exact heap_alloc_new w _
  have h := idxLab_l name w.heap.size L hL A cap W K (hA.below hK b0) (fun g hg => Nat.lt_of_lt_of_le (hK g hg) b0.size) (Array.getElem?_eq_some_iff.1 hw0).1 (by simp [World.cell?, hw0])
  rw [← labN_idx] at h
  generalize idxI (labN name L) = R at h
  clear hw0
  go_enter Tryz.func63, Tryz.ntmps63
  go_wp2_with (first | rw [← hW.out] | fail)
  ((with_reducible refine h.mono ?_); rintro e w1 ⟨rfl, hb⟩)
  go_wp2_with (fail)
  exact bodyPost_ret (results_tmp rfl _ _ _) rfl ⟨rfl, b0.trans (hb.mono b0.size)⟩
theorem ofN_succ : ∀ (L : List Lw) (i : Nat) (h : i < L.length), ofN L (i + 1) = ofN L i + (if L[i].k = 5 then 1 else 0)
  | y :: r, 0, _ => by cases r <;> simp [ofN]
  | y :: r, i + 1, h => by
    rw [ofN, ofN_succ r i (by simpa using h), ofN]
    simp only [List.getElem_cons_succ]
    omega
theorem ofN_le : ∀ (L : List Lw) (i : Nat), ofN L i ≤ L.length
  | [], _ => Nat.zero_le _
  | _ :: _, 0 => Nat.zero_le _
  | y :: r, i + 1 => by
    rw [ofN]
    have := ofN_le r i
    simp only [List.length_cons]
    split <;> omega
set_option maxHeartbeats 4000000 in
theorem of_l (L : List Lw) (hL : L.length ≤ 1000000) (k : Nat) (hk : k ≤ L.length) (A : Option Addr) (cap : Nat) (w : World) (K : Nat → Prop) (hA : LsAt w K A L) (hK : ∀ g, K g → g < w.heap.size) :
    Calls Tryz.prog 92 #[.slice A L.length cap, .int .i64 k] w fun e w' => e = .returned (.int .i64 (ofN L k)) ∧ Below w.heap.size w w' := by
  go_enter Tryz.func92, Tryz.ntmps92
  go_wp2_with (fail)
  go_loopw [5, 6] (fun tn t wr => ∃ i : Nat, t = .int .i64 i ∧ tn = .int .i64 (ofN L i) ∧ i ≤ k ∧ Below w.heap.size w wr) (fun _ t _ => k - (intOf t).toNat)
  case atStart => exact ⟨0, rfl, by cases L <;> rfl, Nat.zero_le _, Below.refl _ _⟩
  case round =>
    obtain ⟨i, rfl, rfl, hi, hb⟩ := hrel
    by_cases hlt : i < k
    · have u0 : decide ((i : Int) < (k : Int)) = true := decide_eq_true (by omega)
      have hl : i < L.length := by omega
      have u1 : decide ((i : Int) < (L.length : Int)) = true := decide_eq_true (by omega)
      obtain ⟨g, off, o, n, s, A2, m, c, rfl, hgl, hok, hline⟩ := hA.line hK hl
      have c1 : wr.cell? ⟨g, off + i * 19 + 1, none⟩ = some (.int .i64 L[i].k) := (hline wr hb).1 1 _ rfl
      have hs := ofN_succ L i hl
      have hle := ofN_le L i
      have hle2 := ofN_le L (i + 1)
      generalize hq2 : ofN L (i + 1) = q2 at hs hle2
      have HQ2 := Lib.hid hq2
      clear hq2
      generalize ofN L i = q at hs hle
      generalize L[i] = y at c1 hs
      have HS := Lib.hid hs
      clear hs hline hok
      cases h5 : (y.k == 5)
      · have hq : q2 = q := by rw [HS.out, if_neg (ne_of_beq_false h5)]; rfl
        clear HS
        subst hq
        go_wp2_with (fail)
        first
          | exact ⟨⟨i + 1, by go_num, by rw [HQ2.out], by omega, hb⟩, by simp [intOf]; omega⟩
          | (go_roundw; case rel => exact ⟨i + 1, by go_num, by rw [HQ2.out], by omega, hb⟩; case measure => (simp [intOf]; omega))
      · have hq : q2 = q + 1 := by rw [HS.out, if_pos (eq_of_beq h5)]
        clear HS
        subst hq
        go_wp2_with (fail)
        first
          | exact ⟨⟨i + 1, by go_num, by rw [HQ2.out]; go_num, by omega, hb⟩, by simp [intOf]; omega⟩
          | (go_roundw; case rel => exact ⟨i + 1, by go_num, by rw [HQ2.out]; go_num, by omega, hb⟩; case measure => (simp [intOf]; omega))
    · obtain rfl : i = k := by omega
      have u0 : decide ((i : Int) < (i : Int)) = false := decide_eq_false (by omega)
      go_wp2_with (fail)
      exact bodyPost_ret (results_tmp rfl _ _ _) rfl ⟨rfl, hb⟩
end Go.Proofs.YtpdkpkabdkefcaaGreatDoor
namespace Go.Proofs.YtpdkpkabdkefcaaGreatDoor
open Go.Sx Go.ChangeShapes Go.WideShapes Go.RowKit Go.Joins Go.Deep Go.Rp
theorem pow_le1024 {n : Nat} (hn : n ≤ 10) : (2 : Int) ^ n ≤ 1024 := by
  have h : ((2 ^ n : Nat) : Int) ≤ ((2 ^ 10 : Nat) : Int) := Int.ofNat_le.2 (Nat.pow_le_pow_right (by decide) hn)
  rw [Int.natCast_pow] at h
  exact h
theorem bitI_mask (n i : Nat) : bitI ((2 ^ n - 1 : Nat) : Int) i = decide (i < n) := by rw [bitI_nat, Nat.testBit_two_pow_sub_one]
theorem bitI_low (x : Int) (n i : Nat) : bitI (x % 2 ^ n) i = (decide (i < n) && bitI x i) := by
  by_cases h : i < n
  · rw [bitI_emod x n i h, decide_eq_true h]; rfl
  · have h0 : 0 ≤ x % 2 ^ n := Int.emod_nonneg _ (by have : (0 : Int) < 2 ^ n := Int.pow_pos (by decide); omega)
    have h1 : x % 2 ^ n < 2 ^ n := Int.emod_lt_of_pos _ (Int.pow_pos (by decide))
    rw [bitI_high (x % 2 ^ n) n i (by omega) h1 (by omega), decide_eq_false (by omega), decide_eq_false h]; rfl
theorem and_low (x : Int) (n : Nat) (hn : n ≤ 10) : bits BinOp.and IntKind.i64 x ((2 ^ n - 1 : Nat) : Int) = x % 2 ^ n := by
  have h0 : 0 ≤ x % 2 ^ n := Int.emod_nonneg _ (by have : (0 : Int) < 2 ^ n := Int.pow_pos (by decide); omega)
  have h1 : x % 2 ^ n < 2 ^ n := Int.emod_lt_of_pos _ (Int.pow_pos (by decide))
  have h2 := pow_le1024 hn
  refine eq_of_has (k := .i64) (bitsOp_has .i64 (fun a b => a &&& b) x _) (show -2 ^ 63 ≤ x % 2 ^ n ∧ x % 2 ^ n < 2 ^ 63 by omega) fun i hi => ?_
  rw [bitI_low]
  refine (bitsOp_bit .i64 (fun a b => a &&& b) (· && ·) (by intro a b i _; simp) x _ i hi).trans ?_
  rw [bitI_mask, Bool.and_comm]
theorem andNot_low (x : Int) (n : Nat) (hx : -1000000000000000 ≤ x ∧ x ≤ 1000000000000000) (hn : n ≤ 10) : bits BinOp.andNot IntKind.i64 x ((2 ^ n - 1 : Nat) : Int) = x / 2 ^ n * 2 ^ n := by
  have h2 := pow_le1024 hn
  have h3 : (0 : Int) < 2 ^ n := Int.pow_pos (by decide)
  have h0 : 0 ≤ x % 2 ^ n := Int.emod_nonneg _ (by omega)
  have h1 : x % 2 ^ n < 2 ^ n := Int.emod_lt_of_pos _ h3
  have h4 : x / 2 ^ n * 2 ^ n = x - x % 2 ^ n := by have := Int.emod_add_ediv_mul x (2 ^ n); omega
  refine eq_of_has (k := .i64) (bitsOp_has .i64 (fun a b => a &&& ~~~b) x _) (show -2 ^ 63 ≤ x / 2 ^ n * 2 ^ n ∧ x / 2 ^ n * 2 ^ n < 2 ^ 63 by omega) fun i hi => ?_
  rw [bitI_shl, bitI_shr]
  refine (bitsOp_bit .i64 (fun a b => a &&& ~~~b) (fun a b => a && !b) (by intro a b i hi; simp [hi]) x _ i hi).trans ?_
  rw [bitI_mask]
  by_cases h : n ≤ i
  · rw [decide_eq_true h, decide_eq_false (by omega), show n + (i - n) = i by omega]; simp
  · rw [decide_eq_false h, decide_eq_true (by omega)]; simp
end Go.Proofs.YtpdkpkabdkefcaaGreatDoor
namespace Go.Proofs.YtpdkpkabdkefcaaGreatDoor
open Go.Sx Go.ChangeShapes Go.WideShapes Go.RowKit Go.Joins Go.Deep Go.Rp
theorem kind_cells {w : World} (h : Laid w) (j : Nat) : w.cell? ⟨0, j, none⟩ = cells12[j]? := by
  obtain ⟨t, fz, hw⟩ := h
  simp [World.cell?, hw]
set_option maxHeartbeats 1000000 in
theorem fits_l1 (o : Int) (w : World) (hw : Laid w) : Calls Tryz.prog 64 #[.int .i64 1, .int .i64 o] w fun e w' => e = .returned (.bool (fitK 1 o)) ∧ w' = w := by
  have hR : fitK 1 o = (decide (o % 2 = 0) && decide (-256 ≤ o ∧ o ≤ 254)) := rfl
  generalize fitK 1 o = R at hR
  have HR := Lib.hid hR
  clear hR
  have c1 : w.cell? ⟨0, 2, none⟩ = some (.int .i64 8) := kind_cells hw 2
  have c2 : w.cell? ⟨0, 3, none⟩ = some (.bool true) := kind_cells hw 3
  have hb : bits BinOp.and IntKind.i64 o 1 = o % 2 := and_low o 1 (by decide)
  clear hw
  go_enter Tryz.func64, Tryz.ntmps64
  cases a : (o % 2 == 0)
  · have a' : (o % 2 != 0) = true := by simpa using ne_of_beq_false a
    have hF : R = false := by rw [HR.out, decide_eq_false (by simpa using a)]; rfl
    subst hF
    go_wp2_with (fail)
    exact bodyPost_ret (results_tmp rfl _ _ _) rfl ⟨rfl, rfl⟩
  · have a' : (o % 2 != 0) = false := by simpa using eq_of_beq a
    have hF : R = decide (-256 ≤ o ∧ o ≤ 254) := by rw [HR.out, decide_eq_true (by simpa using a)]; rfl
    have h2 : o % 2 = 0 := by simpa using a
    cases c1 : decide (-128 ≤ o / 2)
    · have hF2 : R = false := by rw [hF]; exact decide_eq_false (by have := of_decide_eq_false c1; omega)
      clear hF h2
      subst hF2
      go_wp2_with (fail)
      exact bodyPost_ret (results_tmp rfl _ _ _) rfl ⟨rfl, rfl⟩
    · cases c2 : decide (o / 2 < 128)
      · have hF2 : R = false := by rw [hF]; exact decide_eq_false (by have := of_decide_eq_false c2; omega)
        clear hF h2
        subst hF2
        go_wp2_with (fail)
        exact bodyPost_ret (results_tmp rfl _ _ _) rfl ⟨rfl, rfl⟩
      · have hF2 : R = true := by rw [hF]; exact decide_eq_true (by have := of_decide_eq_true c1; have := of_decide_eq_true c2; omega)
        clear hF h2
        subst hF2
        go_wp2_with (fail)
        exact bodyPost_ret (results_tmp rfl _ _ _) rfl ⟨rfl, rfl⟩
set_option maxHeartbeats 1000000 in
theorem fits_l2 (o : Int) (w : World) (hw : Laid w) : Calls Tryz.prog 64 #[.int .i64 2, .int .i64 o] w fun e w' => e = .returned (.bool (fitK 2 o)) ∧ w' = w := by
  have hR : fitK 2 o = (decide (o % 2 = 0) && decide (-2048 ≤ o ∧ o ≤ 2046)) := rfl
  generalize fitK 2 o = R at hR
  have HR := Lib.hid hR
  clear hR
  have c1 : w.cell? ⟨0, 4, none⟩ = some (.int .i64 11) := kind_cells hw 4
  have c2 : w.cell? ⟨0, 5, none⟩ = some (.bool true) := kind_cells hw 5
  have hb : bits BinOp.and IntKind.i64 o 1 = o % 2 := and_low o 1 (by decide)
  clear hw
  go_enter Tryz.func64, Tryz.ntmps64
  cases a : (o % 2 == 0)
  · have a' : (o % 2 != 0) = true := by simpa using ne_of_beq_false a
    have hF : R = false := by rw [HR.out, decide_eq_false (by simpa using a)]; rfl
    subst hF
    go_wp2_with (fail)
    exact bodyPost_ret (results_tmp rfl _ _ _) rfl ⟨rfl, rfl⟩
  · have a' : (o % 2 != 0) = false := by simpa using eq_of_beq a
    have hF : R = decide (-2048 ≤ o ∧ o ≤ 2046) := by rw [HR.out, decide_eq_true (by simpa using a)]; rfl
    have h2 : o % 2 = 0 := by simpa using a
    cases c1 : decide (-1024 ≤ o / 2)
    · have hF2 : R = false := by rw [hF]; exact decide_eq_false (by have := of_decide_eq_false c1; omega)
      clear hF h2
      subst hF2
      go_wp2_with (fail)
      exact bodyPost_ret (results_tmp rfl _ _ _) rfl ⟨rfl, rfl⟩
    · cases c2 : decide (o / 2 < 1024)
      · have hF2 : R = false := by rw [hF]; exact decide_eq_false (by have := of_decide_eq_false c2; omega)
        clear hF h2
        subst hF2
        go_wp2_with (fail)
        exact bodyPost_ret (results_tmp rfl _ _ _) rfl ⟨rfl, rfl⟩
      · have hF2 : R = true := by rw [hF]; exact decide_eq_true (by have := of_decide_eq_true c1; have := of_decide_eq_true c2; omega)
        clear hF h2
        subst hF2
        go_wp2_with (fail)
        exact bodyPost_ret (results_tmp rfl _ _ _) rfl ⟨rfl, rfl⟩
set_option maxHeartbeats 1000000 in
theorem fits_l3 (o : Int) (w : World) (hw : Laid w) : Calls Tryz.prog 64 #[.int .i64 3, .int .i64 o] w fun e w' => e = .returned (.bool (fitK 3 o)) ∧ w' = w := by
  have hR : fitK 3 o = (decide (o % 2 = 0) && decide (-1048576 ≤ o ∧ o ≤ 1048574)) := rfl
  generalize fitK 3 o = R at hR
  have HR := Lib.hid hR
  clear hR
  have c1 : w.cell? ⟨0, 6, none⟩ = some (.int .i64 20) := kind_cells hw 6
  have c2 : w.cell? ⟨0, 7, none⟩ = some (.bool true) := kind_cells hw 7
  have hb : bits BinOp.and IntKind.i64 o 1 = o % 2 := and_low o 1 (by decide)
  clear hw
  go_enter Tryz.func64, Tryz.ntmps64
  cases a : (o % 2 == 0)
  · have a' : (o % 2 != 0) = true := by simpa using ne_of_beq_false a
    have hF : R = false := by rw [HR.out, decide_eq_false (by simpa using a)]; rfl
    subst hF
    go_wp2_with (fail)
    exact bodyPost_ret (results_tmp rfl _ _ _) rfl ⟨rfl, rfl⟩
  · have a' : (o % 2 != 0) = false := by simpa using eq_of_beq a
    have hF : R = decide (-1048576 ≤ o ∧ o ≤ 1048574) := by rw [HR.out, decide_eq_true (by simpa using a)]; rfl
    have h2 : o % 2 = 0 := by simpa using a
    cases c1 : decide (-524288 ≤ o / 2)
    · have hF2 : R = false := by rw [hF]; exact decide_eq_false (by have := of_decide_eq_false c1; omega)
      clear hF h2
      subst hF2
      go_wp2_with (fail)
      exact bodyPost_ret (results_tmp rfl _ _ _) rfl ⟨rfl, rfl⟩
    · cases c2 : decide (o / 2 < 524288)
      · have hF2 : R = false := by rw [hF]; exact decide_eq_false (by have := of_decide_eq_false c2; omega)
        clear hF h2
        subst hF2
        go_wp2_with (fail)
        exact bodyPost_ret (results_tmp rfl _ _ _) rfl ⟨rfl, rfl⟩
      · have hF2 : R = true := by rw [hF]; exact decide_eq_true (by have := of_decide_eq_true c1; have := of_decide_eq_true c2; omega)
        clear hF h2
        subst hF2
        go_wp2_with (fail)
        exact bodyPost_ret (results_tmp rfl _ _ _) rfl ⟨rfl, rfl⟩
set_option maxHeartbeats 1000000 in
theorem fits_l4 (o : Int) (w : World) (hw : Laid w) : Calls Tryz.prog 64 #[.int .i64 4, .int .i64 o] w fun e w' => e = .returned (.bool (fitK 4 o)) ∧ w' = w := by
  have hR : fitK 4 o = (decide (o % 2 = 0) && decide (-16777216 ≤ o ∧ o ≤ 16777214)) := rfl
  generalize fitK 4 o = R at hR
  have HR := Lib.hid hR
  clear hR
  have c1 : w.cell? ⟨0, 8, none⟩ = some (.int .i64 24) := kind_cells hw 8
  have c2 : w.cell? ⟨0, 9, none⟩ = some (.bool true) := kind_cells hw 9
  have hb : bits BinOp.and IntKind.i64 o 1 = o % 2 := and_low o 1 (by decide)
  clear hw
  go_enter Tryz.func64, Tryz.ntmps64
  cases a : (o % 2 == 0)
  · have a' : (o % 2 != 0) = true := by simpa using ne_of_beq_false a
    have hF : R = false := by rw [HR.out, decide_eq_false (by simpa using a)]; rfl
    subst hF
    go_wp2_with (fail)
    exact bodyPost_ret (results_tmp rfl _ _ _) rfl ⟨rfl, rfl⟩
  · have a' : (o % 2 != 0) = false := by simpa using eq_of_beq a
    have hF : R = decide (-16777216 ≤ o ∧ o ≤ 16777214) := by rw [HR.out, decide_eq_true (by simpa using a)]; rfl
    have h2 : o % 2 = 0 := by simpa using a
    cases c1 : decide (-8388608 ≤ o / 2)
    · have hF2 : R = false := by rw [hF]; exact decide_eq_false (by have := of_decide_eq_false c1; omega)
      clear hF h2
      subst hF2
      go_wp2_with (fail)
      exact bodyPost_ret (results_tmp rfl _ _ _) rfl ⟨rfl, rfl⟩
    · cases c2 : decide (o / 2 < 8388608)
      · have hF2 : R = false := by rw [hF]; exact decide_eq_false (by have := of_decide_eq_false c2; omega)
        clear hF h2
        subst hF2
        go_wp2_with (fail)
        exact bodyPost_ret (results_tmp rfl _ _ _) rfl ⟨rfl, rfl⟩
      · have hF2 : R = true := by rw [hF]; exact decide_eq_true (by have := of_decide_eq_true c1; have := of_decide_eq_true c2; omega)
        clear hF h2
        subst hF2
        go_wp2_with (fail)
        exact bodyPost_ret (results_tmp rfl _ _ _) rfl ⟨rfl, rfl⟩
set_option maxHeartbeats 1000000 in
theorem fits_l5 (o : Int) (w : World) (hw : Laid w) : Calls Tryz.prog 64 #[.int .i64 5, .int .i64 o] w fun e w' => e = .returned (.bool (fitK 5 o)) ∧ w' = w := by
  have hR : fitK 5 o = (decide (o % 2 = 0) && decide (0 ≤ o ∧ o ≤ 126)) := rfl
  generalize fitK 5 o = R at hR
  have HR := Lib.hid hR
  clear hR
  have c1 : w.cell? ⟨0, 10, none⟩ = some (.int .i64 6) := kind_cells hw 10
  have c2 : w.cell? ⟨0, 11, none⟩ = some (.bool false) := kind_cells hw 11
  have hb : bits BinOp.and IntKind.i64 o 1 = o % 2 := and_low o 1 (by decide)
  clear hw
  go_enter Tryz.func64, Tryz.ntmps64
  cases a : (o % 2 == 0)
  · have a' : (o % 2 != 0) = true := by simpa using ne_of_beq_false a
    have hF : R = false := by rw [HR.out, decide_eq_false (by simpa using a)]; rfl
    subst hF
    go_wp2_with (fail)
    exact bodyPost_ret (results_tmp rfl _ _ _) rfl ⟨rfl, rfl⟩
  · have a' : (o % 2 != 0) = false := by simpa using eq_of_beq a
    have hF : R = decide (0 ≤ o ∧ o ≤ 126) := by rw [HR.out, decide_eq_true (by simpa using a)]; rfl
    have h2 : o % 2 = 0 := by simpa using a
    cases c1 : decide (0 ≤ o / 2)
    · have hF2 : R = false := by rw [hF]; exact decide_eq_false (by have := of_decide_eq_false c1; omega)
      clear hF h2
      subst hF2
      go_wp2_with (fail)
      exact bodyPost_ret (results_tmp rfl _ _ _) rfl ⟨rfl, rfl⟩
    · cases c2 : decide (o / 2 < 64)
      · have hF2 : R = false := by rw [hF]; exact decide_eq_false (by have := of_decide_eq_false c2; omega)
        clear hF h2
        subst hF2
        go_wp2_with (fail)
        exact bodyPost_ret (results_tmp rfl _ _ _) rfl ⟨rfl, rfl⟩
      · have hF2 : R = true := by rw [hF]; exact decide_eq_true (by have := of_decide_eq_true c1; have := of_decide_eq_true c2; omega)
        clear hF h2
        subst hF2
        go_wp2_with (fail)
        exact bodyPost_ret (results_tmp rfl _ _ _) rfl ⟨rfl, rfl⟩
end Go.Proofs.YtpdkpkabdkefcaaGreatDoor
