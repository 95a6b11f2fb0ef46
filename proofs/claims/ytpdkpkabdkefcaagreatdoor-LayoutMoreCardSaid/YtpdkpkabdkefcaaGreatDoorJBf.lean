/- For the seat: texts joined: LyU, LyV. -/
import Derived.Test.YtpdkpkabdkefcaaGreatDoorJBe
import Derived.Laws.CopyOwn
set_option maxRecDepth 100000
namespace Go.Proofs.YtpdkpkabdkefcaaGreatDoor
open Go.Sx Go.ChangeShapes Go.WideShapes Go.RowKit Go.Joins Go.Deep Go.Rp
theorem row_same {w : World} {b : Nat} {t : TypeId} {n i : Nat} {G F : List Int} (h : w.rowIs b t n fun j => .int .i64 (if j < i then G.getD j 0 else F.getD j 0)) (hv : G.getD i 0 = F.getD i 0) :
    w.rowIs b t n fun j => .int .i64 (if j < i + 1 then G.getD j 0 else F.getD j 0) := by
  refine h.congr fun j _ => ?_
  by_cases e : j = i
  · subst e; rw [if_neg (Nat.lt_irrefl _), if_pos (by omega), hv]
  · by_cases h1 : j < i
    · rw [if_pos h1, if_pos (by omega)]
    · rw [if_neg h1, if_neg (by omega)]
theorem row_chg {w : World} {b : Nat} {t : TypeId} {n i : Nat} {G F : List Int} (h : w.rowIs b t n fun j => .int .i64 (if j < i then G.getD j 0 else F.getD j 0)) {v : Int} (hv : G.getD i 0 = v) :
    (w.setCell ⟨b, i, none⟩ (.int .i64 v)).rowIs b t n fun j => .int .i64 (if j < i + 1 then G.getD j 0 else F.getD j 0) := by
  refine (h.set i _).congr fun j _ => ?_
  by_cases e : j = i
  · subst e; rw [if_pos rfl, if_pos (by omega), hv]
  · rw [if_neg e]
    by_cases h1 : j < i
    · rw [if_pos h1, if_pos (by omega)]
    · rw [if_neg h1, if_neg (by omega)]
def grown (G F : List Int) (i : Nat) (g : Bool) : Prop := g = true ↔ ∃ j, j < i ∧ G.getD j 0 ≠ F.getD j 0
theorem grown_same {G F : List Int} {i : Nat} {g : Bool} (h : grown G F i g) (hv : G.getD i 0 = F.getD i 0) : grown G F (i + 1) g :=
  h.trans ⟨fun ⟨j, h1, h2⟩ => ⟨j, by omega, h2⟩, fun ⟨j, h1, h2⟩ => ⟨j, by
    by_cases e : j = i
    · subst e; exact absurd hv h2
    · omega, h2⟩⟩
theorem grown_chg {G F : List Int} {i : Nat} (hv : G.getD i 0 ≠ F.getD i 0) : grown G F (i + 1) true := ⟨fun _ => ⟨i, by omega, hv⟩, fun _ => rfl⟩
theorem grown_end {G F : List Int} {n : Nat} {g : Bool} (h : grown G F n g) (hG : G.length = n) (hF : F.length = n) : g = decide (G ≠ F) := by
  have key : (∃ j, j < n ∧ G.getD j 0 ≠ F.getD j 0) ↔ G ≠ F := by
    constructor
    · rintro ⟨j, _, h2⟩ e; exact h2 (by rw [e])
    · intro hne
      refine Classical.byContradiction fun hn => hne (List.ext_getElem (by omega) fun j h1 h2 => ?_)
      have : ¬ (G.getD j 0 ≠ F.getD j 0) := fun h => hn ⟨j, by omega, h⟩
      have h3 := Classical.not_not.1 this
      rw [List.getD_eq_getElem?_getD, List.getElem?_eq_getElem h1, List.getD_eq_getElem?_getD, List.getElem?_eq_getElem h2] at h3
      exact h3
  cases g
  · exact (decide_eq_false (fun h2 => by have := h.2 (key.2 h2); cases this)).symm
  · exact (decide_eq_true (key.1 (h.1 rfl))).symm
def GrowRet (B : Nat) (G : List Int) (g : Bool) (e : Ending) (w : World) : Prop := ∃ A cap, e = .returned (.tuple #[.slice A G.length cap, .bool g]) ∧ IAt w w.heap.size A G ∧ (∀ q o, A = some ⟨q, o, none⟩ → B ≤ q) ∧ G.length ≤ cap
theorem addrL_bd {L : List Lw} {F : List Int} {P : List (List Int)} (hL : L.length ≤ 1000) (hsz : ∀ y ∈ L, y.sz ≤ 1048576) (hP : ∀ p ∈ P, p.length ≤ 100000) : (addrL L F P).length = L.length + 1 ∧ ∀ a ∈ addrL L F P, 0 ≤ a ∧ a ≤ 1000000000000 := by
  refine ⟨addrF_len _ _ _, fun a ha => ?_⟩
  have := addrF_bd L _ 0 (sizesF_bd P hP L F 0 0 hsz) (by omega) a ha
  omega
set_option maxHeartbeats 16000000 in
theorem grow_l (L : List Lw) (hL : L.length ≤ 1000) (hsz : ∀ y ∈ L, y.sz ≤ 1048576) (F : List Int) (hF : ∀ f ∈ F, okF f) (hFl : F.length = L.length) (P : List (List Int)) (hP : ∀ p ∈ P, p.length ≤ 100000) (hPl : P.length ≤ 1000000) (V : List Int) (hVl : V.length ≤ 1000000)
    (A AF AP AV : Option Addr) (cA cF cP cV : Nat) (hcA : L.length ≤ cA) (w : World) (hA : LsAt w (fun g => g < w.heap.size) A L) (hAF : IAt w w.heap.size AF F) (hAP : PlAt w w.heap.size AP P) (hAV : IAt w w.heap.size AV V) (hw : Laid w) :
    Calls Tryz.prog 13 #[.slice A L.length cA, .slice AF F.length cF, .slice AP P.length cP, .slice AV V.length cV] w fun e w' => GrowRet w.heap.size (growL L (insideL L) P V F) (decide (growL L (insideL L) P V F ≠ F)) e w' ∧ Below w.heap.size w w' := by
  have hnew := new_l L hL hsz F hF (by omega) P hP hPl V A AF AP AV cA cF cP cV hcA w hA hAF hAP hAV
  have hIl := insideL_len L
  have hGl := growL_len L (insideL L) P V F
  have hGg := fun i hi => growL_get L (insideL L) P V F (i := i) hi
  obtain ⟨hRl, hRb⟩ := addrL_bd (F := F) hL hsz hP
  generalize growL L (insideL L) P V F = G at hGl hGg
  generalize insideL L = I at hIl hGg hnew
  generalize addrL L F P = R at hRl hRb hGg hnew
  have HG := Lib.hid hGl
  have HGG := Lib.hid hGg
  have HR := Lib.hid hRl
  have HRB := Lib.hid hRb
  have HI := Lib.hid hIl
  have HF := Lib.hid hFl
  have HFO := Lib.hid hF
  have HW := Lib.hid hw
  clear hGl hGg hRl hRb hIl hw hFl
  obtain ⟨i0, hi0, hz0, hz1, hz2⟩ := info_parts intInfo
  go_enter Tryz.func13, Tryz.ntmps13
  go_wp2_with (fail)
  ((with_reducible refine hnew.mono ?_); rintro e wN ⟨b, rfl, hbN, hD, hBN⟩)
  obtain ⟨W, hW⟩ : ∃ W, Hid (W = wN.alloc (.cells (madeCells #[.int .i64 0] L.length) 3)) := ⟨_, Lib.hid rfl⟩
  have hrowW : W.rowIs wN.heap.size 3 L.length fun _ => .int .i64 0 := by rw [hW.out]; exact World.rowIs_made wN (.int .i64 0) L.length 3
  have hbW : Below wN.heap.size wN W := by rw [hW.out]; exact (Below.refl _ _).alloc (Nat.le_refl _) _
  go_wp2_with (with_reducible show wpList _ _ _ (_ :: _) _ _; refine wpList_stop 25 rfl ?_)
  refine Lib.hid ?_
  refine wpList_make_row wN rfl _ _ 26 rfl 3 i0 _ Tryz.underlying26 hi0 hz0 hz1 rfl .i64 .i64 L.length (by rfl) (by rfl) (by rw [hz2]; omega) (by omega) ?_
  rw [← hW.out]
  clear hi0 hz0 hz1 hz2 hnew
  obtain ⟨cur, hcur, hcl, _⟩ := hrowW
  have hAFW := hAF.below (hBN.trans (hbW.mono hBN.size)) (Nat.le_refl _)
  go_wp2_with (with_reducible show wpList _ _ _ (_ :: _) _ _; refine wpList_stop 28 rfl ?_)
  refine Lib.hid ?_
  refine wpList_copy_splice rfl (.tmp 26) (.tmp 27) 26 26 rfl 3 Tryz.underlying26 (by kernel_rfl) (some ⟨wN.heap.size, 0, none⟩) AF L.length L.length F.length cF (by rfl) (by rfl) wN.heap.size 0 cur.toList 3 (by simpa using hcur) (encI F) (by rw [encI_len, HF.out]; simp) (fun h => ⟨rfl, ?_⟩) (by rw [encI_len, HF.out]; simp [hcl]) (fun v hv => by simp [encI] at hv; obtain ⟨x, _, rfl⟩ := hv; rfl) wN.heap.size wN hbW (Nat.le_refl _) ?_
  · have hF0 : F ≠ [] := by rintro rfl; simp [encI] at h
    obtain ⟨g, off, rfl, hg, hc⟩ := hAFW hF0
    exact ⟨_, rfl, fun j v hv => by
      simp only [encI, List.getElem?_map, Option.map_eq_some_iff] at hv
      obtain ⟨x, hx, rfl⟩ := hv
      rw [Addr.add_mid]
      exact hc j x hx⟩
  intro W2 hrow2 hb2
  have hrowS : W2.rowIs wN.heap.size 3 L.length fun j => .int .i64 (if j < 0 then G.getD j 0 else F.getD j 0) := by
    refine ⟨_, hrow2.out, ?_, fun j hj => ?_⟩
    · have := length_splice cur.toList 0 (encI F) (by rw [encI_len, HF.out]; simp [hcl])
      simpa [hcl] using this
    · have hsp : splice cur.toList 0 (encI F) = encI F := by
        unfold splice
        rw [List.take_zero, List.nil_append, List.drop_eq_nil_of_le (by rw [encI_len, HF.out]; simp [hcl]), List.append_nil]
      rw [hsp]
      show _ = some (Value.int IntKind.i64 (if j < 0 then G.getD j 0 else F.getD j 0))
      rw [if_neg (by omega)]
      have hj2 : j < F.length := by have := HF.out; omega
      simp [encI, hj2]
  clear hrow2 hcur hAFW
  have hDN := fun W h => DeskAt.below (w' := W) hD h
  have HD := Lib.hid hDN
  clear hDN hD
  go_wp2_with (fail)
  go_loopw [12, 31] (fun tg t wr => ∃ (i : Nat) (g : Bool), t = .int .i64 i ∧ tg = .bool g ∧ i ≤ L.length ∧ Hid (grown G F i g) ∧ wr.rowIs wN.heap.size 3 L.length (fun j => .int .i64 (if j < i then G.getD j 0 else F.getD j 0)) ∧ Below wN.heap.size wN wr) (fun _ t _ => L.length - (intOf t).toNat)
  case atStart => exact ⟨0, false, rfl, rfl, Nat.zero_le _, Lib.hid ⟨fun h => (by cases h), fun ⟨j, h, _⟩ => by omega⟩, hrowS, hb2⟩
  case round =>
    obtain ⟨i, g0, rfl, rfl, hi, hgr, hrow, hb⟩ := hrel
    clear hrowS hb2
    by_cases hlt : i < L.length
    · have u0 : decide ((i : Int) < (L.length : Int)) = true := decide_eq_true (by omega)
      obtain ⟨g, off, o, n, s, A2, m, c, rfl, hgl, hok, hline⟩ := hA.line (fun _ h => h) hlt
      have hl0 := (hline wr (hBN.trans (hb.mono hBN.size))).1
      have hG := HGG.out i hlt
      have hf := mem_getD HFO.out (by unfold okF; omega) i
      obtain ⟨V1, hV, bV, sV, hzV, hth⟩ := line_copy wr L[i] o n s A2 m c
      have hBw : wN.heap.size ≤ wr.heap.size := hb.size
      have bWV := hb.trans (bV.mono hb.size)
      have hof := fun W (h : Below wN.heap.size wN W) => offset_d hL hP hPl hVl HR.out HRB.out hlt (F.getD i 0) (HD.out W h)
      have hft := fun x W (h : Below wN.heap.size wN W) hl => fits_d HI.out hlt (F.getD i 0) x (HD.out W h) hl
      have hnx := fun W (h : Below wN.heap.size wN W) => next_l HI.out hlt (F.getD i 0) (HD.out W h)
      have hrc := fun o n s A2 m c => reach_l L[i] (.int .i64 o) (.int .i64 n) (.string (tx s)) (.slice A2 m c)
      have hgy : G.getD i 0 = if reachB L[i] then (match offY L P V R i L[i] (F.getD i 0) with | none => F.getD i 0 | some x => if fitY L[i] (I.getD i false) (F.getD i 0) x then F.getD i 0 else nextY L[i] (I.getD i false) (F.getD i 0)) else F.getD i 0 := hG
      clear hG hline hok
      generalize reachB L[i] = rb at hgy hrc
      generalize offY L P V R i L[i] (F.getD i 0) = z at hgy hof
      generalize nextY L[i] (I.getD i false) (F.getD i 0) = nx at hgy hnx
      generalize fitY L[i] (I.getD i false) (F.getD i 0) = fi at hgy hft
      generalize L[i] = y at hl0 hV hzV hrc
      obtain ⟨fv, hfv⟩ : ∃ f, Hid (f = F.getD i 0) := ⟨_, Lib.hid rfl⟩
      rw [← hfv.out] at hgy hof hft hnx hf
      have HGY := Lib.hid hgy
      have HOf := Lib.hid hof
      have HFt := Lib.hid hft
      have HNx := Lib.hid hnx
      have HRc := Lib.hid hrc
      have rowV := hrow.of_block (bV.block wN.heap.size hrow.lt)
      have HRow := Lib.hid (show ∀ W, Below V1.heap.size V1 W → W.rowIs wN.heap.size 3 L.length (fun j => .int .i64 (if j < i then G.getD j 0 else F.getD j 0)) ∧ W.cell? ⟨wN.heap.size, i, none⟩ = some (.int .i64 fv) from fun W hb' => by
        have r := rowV.of_block (hb'.block wN.heap.size rowV.lt)
        refine ⟨r, ?_⟩
        have c := r.cell hlt
        rw [if_neg (Nat.lt_irrefl i), ← hfv.out] at c
        exact c)
      dsimp only [lwX, lwC] at hl0
      clear hgy hof hft hnx hrc hrow rowV
      go_wp2_with (with_reducible show wpList _ _ _ (_ :: _) _ _; refine wpList_stop 35 rfl ?_)
      refine Lib.hid ?_
      refine wpList_load_row rfl 49 (.tmp 34) rfl g (off + i * 19) (by rfl) _ hl0 _ Tryz.underlying49 rfl (by kernel_rfl) ?_
      go_wp2_with (with_reducible show wpList _ _ _ (_ :: _) _ _; refine wpList_stop 14 rfl ?_)
      refine Lib.hid ?_
      refine wpList_allocW rfl (.cells lwZ 49) wr.heap.size rfl (alloc_line _ _ _ _ _ _) ?_
      refine Hid.out ?_
      refine Lib.hid ?_
      go_wp2_with (with_reducible show wpList _ _ _ (_ :: _) _ _; refine wpList_stopS rfl ?_)
      refine Lib.hid ?_
      refine wpList_store_mid rfl 49 (.tmp 14) (.tmp 35) rfl wr.heap.size 0 (lwX y o n s A2 m c) (by rfl) (by rfl) hth (by kernel_rfl) (lwC_one _ _ _ _ _ _ _) ?_; rw [← hV.out]
      refine Hid.out ?_
      refine Lib.hid ?_
      go_wp2_with (with_reducible show wpList _ _ _ (_ :: _) _ _; refine wpList_stop 36 rfl ?_)
      refine Lib.hid ?_
      refine wpList_load_blk rfl 49 (.tmp 14) rfl wr.heap.size (by rfl) _ hzV _ Tryz.underlying49 rfl (by kernel_rfl) ?_
      go_wp2_with (fail)
      ((with_reducible refine (HRc.out o n s A2 m c V1).mono ?_); rintro e w5 ⟨rfl, hb5⟩)
      have b5 := bWV.trans (hb5.mono bWV.size)
      have hV5 := hb5
      cases rb
      · skip
        have hx : G.getD i 0 = fv := HGY.out
        obtain ⟨r0, _⟩ := HRow.out w5 hV5
        go_wp2_with (fail)
        first
          | (go_roundw; case rel => exact ⟨i + 1, g0, by go_num, rfl, by omega, Lib.hid (grown_same hgr.out (hx.trans hfv.out)), row_same r0 (hx.trans hfv.out), b5⟩; case measure => (simp [intOf]; omega))
          | exact ⟨⟨i + 1, g0, by go_num, rfl, by omega, Lib.hid (grown_same hgr.out (hx.trans hfv.out)), row_same r0 (hx.trans hfv.out), b5⟩, by simp [intOf]; omega⟩
      obtain ⟨_, c5⟩ := HRow.out w5 hV5
      go_wp2_with (fail)
      ((with_reducible refine (HOf.out w5 b5).mono ?_); rintro e w6 ⟨⟨x, rfl, hx6⟩, hb6⟩)
      have b6 := b5.trans (hb6.mono b5.size)
      have hV6 := hV5.trans (hb6.mono hV5.size)
      rcases z with _ | z
      · skip
        have u1 : (none : Option Int).isSome = false := rfl
        have hx : G.getD i 0 = fv := HGY.out
        obtain ⟨r0, _⟩ := HRow.out w6 hV6
        go_wp2_with (fail)
        first
          | (go_roundw; case rel => exact ⟨i + 1, g0, by go_num, rfl, by omega, Lib.hid (grown_same hgr.out (hx.trans hfv.out)), row_same r0 (hx.trans hfv.out), b6⟩; case measure => (simp [intOf]; omega))
          | exact ⟨⟨i + 1, g0, by go_num, rfl, by omega, Lib.hid (grown_same hgr.out (hx.trans hfv.out)), row_same r0 (hx.trans hfv.out), b6⟩, by simp [intOf]; omega⟩
      have u1 : (some z).isSome = true := rfl
      have hxz := hx6 z rfl
      subst hxz
      obtain ⟨_, c6⟩ := HRow.out w6 hV6
      have hl6 := laid_lw HW.out (hBN.trans (b6.mono hBN.size))
      go_wp2_with (fail)
      ((with_reducible refine (HFt.out x w6 b6 hl6).mono ?_); rintro e w7 ⟨rfl, hb7⟩)
      have b7 := b6.trans (hb7.mono b6.size)
      have hV7 := hV6.trans (hb7.mono hV6.size)
      cases hfi : fi x
      rotate_left
      · skip
        have hx : G.getD i 0 = fv := by rw [HGY.out]; simp [hfi]
        obtain ⟨r0, _⟩ := HRow.out w7 hV7
        go_wp2_with (fail)
        first
          | (go_roundw; case rel => exact ⟨i + 1, g0, by go_num, rfl, by omega, Lib.hid (grown_same hgr.out (hx.trans hfv.out)), row_same r0 (hx.trans hfv.out), b7⟩; case measure => (simp [intOf]; omega))
          | exact ⟨⟨i + 1, g0, by go_num, rfl, by omega, Lib.hid (grown_same hgr.out (hx.trans hfv.out)), row_same r0 (hx.trans hfv.out), b7⟩, by simp [intOf]; omega⟩
      have hxn : G.getD i 0 = nx := by rw [HGY.out]; simp [hfi]
      clear HGY hfi
      obtain ⟨_, c7⟩ := HRow.out w7 hV7
      go_wp2_with (fail)
      ((with_reducible refine (HNx.out w7 b7).mono ?_); rintro e w8 ⟨rfl, hb8⟩)
      have b8 := b7.trans (hb8.mono b7.size)
      have hV8 := hV7.trans (hb8.mono hV7.size)
      obtain ⟨r8, c8⟩ := HRow.out w8 hV8
      cases hne : (nx == fv)
      · have hne' : (nx != fv) = true := by simpa using ne_of_beq_false hne
        have fz := r8.frozen i
        have HXN := Lib.hid hxn
        clear hxn
        go_wp2_with (fail)
        first
          | (go_roundw; case rel => exact ⟨i + 1, true, by go_num, rfl, by omega, Lib.hid (grown_chg (by rw [HXN.out, ← hfv.out]; exact ne_of_beq_false hne)), row_chg r8 HXN.out, b8.setCell (p := ⟨wN.heap.size, i, none⟩) (Nat.le_refl _) _⟩; case measure => (simp [intOf]; omega))
          | exact ⟨⟨i + 1, true, by go_num, rfl, by omega, Lib.hid (grown_chg (by rw [HXN.out, ← hfv.out]; exact ne_of_beq_false hne)), row_chg r8 HXN.out, b8.setCell (p := ⟨wN.heap.size, i, none⟩) (Nat.le_refl _) _⟩, by simp [intOf]; omega⟩
      · have hne' : (nx != fv) = false := by simpa using eq_of_beq hne
        have hx : G.getD i 0 = fv := hxn.trans (eq_of_beq hne)
        obtain ⟨r0, _⟩ := HRow.out w8 hV8
        go_wp2_with (fail)
        first
          | (go_roundw; case rel => exact ⟨i + 1, g0, by go_num, rfl, by omega, Lib.hid (grown_same hgr.out (hx.trans hfv.out)), row_same r0 (hx.trans hfv.out), b8⟩; case measure => (simp [intOf]; omega))
          | exact ⟨⟨i + 1, g0, by go_num, rfl, by omega, Lib.hid (grown_same hgr.out (hx.trans hfv.out)), row_same r0 (hx.trans hfv.out), b8⟩, by simp [intOf]; omega⟩
    · obtain rfl : i = L.length := by omega
      have u0 : decide ((L.length : Int) < (L.length : Int)) = false := decide_eq_false (by omega)
      have rowX : wr.rowIs wN.heap.size 3 L.length (fun j => .int .i64 (G.getD j 0)) := hrow.congr fun j hj => by rw [if_pos hj]
      have hret := intRet_row (B := w.heap.size) G HG.out rowX hBN.size
      have hge := grown_end hgr.out HG.out HF.out
      have BX := hBN.trans (hb.mono hBN.size)
      have HGE := Lib.hid hge
      clear hrow rowX hgr hge
      go_wp2_with fail
      refine bodyPost_ret (results_tmp2 rfl _ _ _) rfl ⟨?_, BX⟩
      obtain ⟨A0, c0, e0, h1, h2, h3⟩ := hret
      simp only [Ending.returned.injEq, Value.slice.injEq] at e0
      obtain ⟨rfl, _, rfl⟩ := e0
      exact ⟨_, _, by rw [HG.out, ← HGE.out]; rfl, h2, h3, Nat.le_of_eq HG.out⟩
end Go.Proofs.YtpdkpkabdkefcaaGreatDoor
namespace Go.Proofs.YtpdkpkabdkefcaaGreatDoor
open Go.Sx Go.ChangeShapes Go.WideShapes Go.RowKit Go.Joins Go.Deep Go.Rp
def Left (L : List Lw) (I : List Bool) (P : List (List Int)) (V G : List Int) (N : Nat) (F : List Int) (n : Nat) (more : Bool) : Prop :=
  (more = true → ∃ k, roomF F < k ∧ solveF L I P V k F = (G, N - n) ∧ n < N) ∧ (more = false → F = G ∧ n = N)
theorem left_step {L : List Lw} {I : List Bool} {P : List (List Int)} {V G : List Int} {N : Nat} {F : List Int} {n : Nat} (hF : F.length = L.length) (hok : ∀ f ∈ F, okF f) (h : Left L I P V G N F n true) :
    Left L I P V G N (growL L I P V F) (n + 1) (decide (growL L I P V F ≠ F)) := by
  obtain ⟨k, h1, h2, h3⟩ := h.1 rfl
  obtain ⟨k, rfl⟩ : ∃ k', k = k' + 1 := ⟨k - 1, by omega⟩
  rw [solveF] at h2
  by_cases e : growL L I P V F = F
  · rw [if_pos e, Prod.mk.injEq] at h2
    rw [decide_eq_false (fun h => h e)]
    exact ⟨fun h => (by cases h), fun _ => ⟨e.trans h2.1, by omega⟩⟩
  · rw [if_neg e, Prod.mk.injEq] at h2
    rw [decide_eq_true e]
    have hr := grow_room L I P V hF hok e
    have hen := solveF_ends L I P V k (growL L I P V F) (growL_len _ _ _ _ _) (growL_ok L I P V hF hok).1 (by omega)
    refine ⟨fun _ => ⟨k, by omega, Prod.ext h2.1 (by show (solveF L I P V k (growL L I P V F)).2 = N - (n + 1); omega), ?_⟩, fun h => (by cases h)⟩
    have := hen.2.1
    omega
theorem results_ttc {P : Program} {fn : Func} {p u v : Tmp} {ty : TypeId} (h : fn.results = #[.tmp u, .tmp v, .cell p ty]) (tmps : Array Value) (w : World) (g : Nat) (t : TypeId) (cs : Array Value) (fr : Nat × Nat) (d : TypeDesc)
    (hp : tmps.getD p undef = .pointer (some ⟨g, 0, none⟩)) (hg : w.heap[g]? = some (.cells cs t fr))
    (hu : P.underlying ty = some d) (hd : (match d with | .struct _ | .array _ _ => true | _ => false) = true) (hi : (P.info? ty).map (·.size) = some cs.size) :
    (results fn tmps).run P w = .ok (.tuple #[tmps.getD u undef, tmps.getD v undef, .agg cs]) w := by
  have hp' : tmps[p]?.getD undef = .pointer (some ⟨g, 0, none⟩) := by simpa using hp
  simp [results, h, hp', asAddr, run_loadVar_row w g t ty cs fr d hg hu hd hi]
theorem fault_put {w : World} {g : Nat} {x y a b : Value} (h : w.heap[g]? = some (.cells #[x, y] 33 (0, 0))) : ((w.setCell ⟨g, 0, none⟩ a).setCell ⟨g, 1, none⟩ b).heap[g]? = some (.cells #[a, b] 33 (0, 0)) := by
  simp [World.setCell, Array.getElem?_modify, h]
def solveT (L : List Lw) (I : List Bool) (P : List (List Int)) (V G : List Int) (N : Nat) : List Int × Int × Int × Int :=
  if 1048576 < (addrL L G P).getD L.length 0 + (sizesF P L G 0 0).getD L.length 0 then ([], 0, 2, 0)
  else match firstBad L I P V (addrL L G P) G 0 L with
    | some i => ([], 0, 8, (i : Int) + 1)
    | none => (G, (N : Int), 0, 0)
def SolveRet (B : Nat) (S : List Int × Int × Int × Int) (e : Ending) (w : World) : Prop :=
  ∃ A cap, e = .returned (.tuple #[.slice A S.1.length cap, .int .i64 S.2.1, .agg #[.int .i64 S.2.2.1, .int .i64 S.2.2.2]]) ∧ IAt w w.heap.size A S.1 ∧ (∀ q o, A = some ⟨q, o, none⟩ → B ≤ q) ∧ S.1.length ≤ cap
set_option maxHeartbeats 16000000 in
theorem solve_l (can : Lw → Bool → Bool) (hCan : ∀ (y : Lw) (it : Bool) (w : World), Laid w → okW y → Calls Tryz.prog 27 #[.agg (insC y), .bool it] w fun e w' => e = .returned (.bool (can y it)) ∧ Below w.heap.size w w')
    (L : List Lw) (hL : L.length ≤ 1000) (hsz : ∀ y ∈ L, y.sz ≤ 1048576) (P : List (List Int)) (hP : ∀ p ∈ P, p.length ≤ 100000) (hPl : P.length ≤ 1000000) (V : List Int) (hVl : V.length ≤ 1000000)
    (A AP AV : Option Addr) (cA cP cV : Nat) (hcA : L.length ≤ cA) (w : World) (hA : LsAt w (fun g => g < w.heap.size) A L) (hAP : PlAt w w.heap.size AP P) (hAV : IAt w w.heap.size AV V) (hw : Laid w) :
    Calls Tryz.prog 12 #[.slice A L.length cA, .slice AP P.length cP, .slice AV V.length cV] w fun e w' => SolveRet w.heap.size (solveL L (insideL L) P V (startL can L (insideL L))) e w' ∧ Below w.heap.size w w' := by
  have hIl := insideL_len L
  have hSl := startL_len can L _ hIl
  have hSo := startL_ok can L (insideL L)
  have hro := roomF_le _ hSo
  obtain ⟨e1, e2, e3, e4, e5, _⟩ := solveF_ends L (insideL L) P V (2 * L.length + 1) (startL can L (insideL L)) hSl hSo (by omega)
  have hR : solveL L (insideL L) P V (startL can L (insideL L)) = solveT L (insideL L) P V (solveF L (insideL L) P V (2 * L.length + 1) (startL can L (insideL L))).1 (solveF L (insideL L) P V (2 * L.length + 1) (startL can L (insideL L))).2 := rfl
  have hleft : Left L (insideL L) P V (solveF L (insideL L) P V (2 * L.length + 1) (startL can L (insideL L))).1 (solveF L (insideL L) P V (2 * L.length + 1) (startL can L (insideL L))).2 (startL can L (insideL L)) 0 true := ⟨fun _ => ⟨2 * L.length + 1, by omega, rfl, by omega⟩, fun h => by cases h⟩
  generalize solveL L (insideL L) P V (startL can L (insideL L)) = R at hR
  generalize (solveF L (insideL L) P V (2 * L.length + 1) (startL can L (insideL L))).1 = G at hR hleft e1 e4 e5
  generalize (solveF L (insideL L) P V (2 * L.length + 1) (startL can L (insideL L))).2 = N at hR hleft e2 e3
  have HR := Lib.hid hR
  have HE1 := Lib.hid e1
  have HE4 := Lib.hid e4
  have HE5 := Lib.hid e5
  have hN : N ≤ 2 * L.length + 1 := by omega
  have HSl := Lib.hid hSl
  have HSo := Lib.hid hSo
  have hst := fun W hA hK hw => start_l can hCan L (by omega) A cA W (fun g => g < w.heap.size) hA hK hw
  unfold IntRet at hst
  generalize startL can L (insideL L) = F0 at hst hleft HSl HSo
  have HLe := Lib.hid hleft
  have HSt := Lib.hid hst
  have HI := Lib.hid hIl
  clear hR e1 e4 e5 hSl hSo hst hleft hIl e2 e3 hro hCan
  obtain ⟨W0, hW0⟩ : ∃ W0, Hid (W0 = w.alloc (.cells #[.int .i64 0, .int .i64 0] 33)) := ⟨_, Lib.hid rfl⟩
  have bw : Below w.heap.size w W0 := by rw [hW0.out]; exact (Below.refl _ _).alloc (Nat.le_refl _) _
  have hz0 : W0.heap[w.heap.size]? = some (.cells #[.int .i64 0, .int .i64 0] 33 (0, 0)) := by rw [hW0.out]; exact heap_alloc_new w _
  have hw0 := laid_lw hw bw
  have hz0l : w.heap.size < W0.heap.size := (Array.getElem?_eq_some_iff.1 hz0).1
  have HZ := Lib.hid hz0
  have HW := Lib.hid hw0
  clear hz0 hw0 hw
  go_enter Tryz.func12, Tryz.ntmps12
  go_wp2_with (first | rw [← hW0.out] | fail)
  ((with_reducible refine (HSt.out W0 (hA.below (fun _ h => h) bw) (fun g hg => Nat.lt_of_lt_of_le hg bw.size) HW.out).mono ?_); rintro e w1 ⟨⟨A1, c1, rfl, hr1, hat1, hq1⟩, hb1⟩)
  go_wp2_with (fail)
  go_loopw [9, 10, 11] (fun tf tn tm wr => ∃ (F : List Int) (n : Nat) (more : Bool) (Af : Option Addr) (cf : Nat), tf = .slice Af F.length cf ∧ tn = .int .i64 n ∧ tm = .bool more ∧ Hid (F.length = L.length) ∧ Hid (∀ f ∈ F, okF f) ∧ IAt wr wr.heap.size Af F ∧ Hid ((∀ q o, Af = some ⟨q, o, none⟩ → W0.heap.size ≤ q) ∧ F.length ≤ cf) ∧ Hid (Left L (insideL L) P V G N F n more) ∧ n ≤ N ∧ Below W0.heap.size W0 wr) (fun _ tn _ _ => 2 * L.length + 2 - (intOf tn).toNat)
  case atStart => exact ⟨F0, 0, true, A1, c1, rfl, rfl, rfl, HSl, HSo, hat1, Lib.hid ⟨hq1, hr1.elim (fun h => by omega) (fun h => h.1)⟩, HLe, Nat.zero_le _, hb1⟩
  case round =>
    obtain ⟨F, n, more, Af, cf, rfl, rfl, rfl, hFl, hFo, hat, hqf, hle, hnN, hb⟩ := hrel
    have bwr := bw.trans (hb.mono bw.size)
    cases more
    · obtain ⟨rfl, rfl⟩ := hle.out.2 rfl
      have hnew := new_l L hL hsz F hFo.out (by have := hFl.out; omega) P hP hPl V A Af AP AV cA cf cP cV hcA wr (hA.keep (fun g hg => Nat.lt_of_lt_of_le hg bwr.size) (fun g hg => bwr.block g hg)) hat ((hAP.below bwr (Nat.le_refl _)).more bwr.size) ((hAV.below bwr (Nat.le_refl _)).more bwr.size)
      have hsi := fun W (h : Below wr.heap.size wr W) => sizes_l L hL hsz F hFo.out (by have := hFl.out; omega) P hP hPl A Af AP cA cf cP W (fun g => g < w.heap.size) (hA.below (fun _ h => h) (bwr.trans (h.mono bwr.size))) (fun g hg => Nat.lt_of_lt_of_le hg (bwr.trans (h.mono bwr.size)).size) ((hat.below h (Nat.le_refl _)).more h.size) ((hAP.below (bwr.trans (h.mono bwr.size)) (Nat.le_refl _)).more (bwr.trans (h.mono bwr.size)).size)
      have hsb := sizesF_bd P hP L F 0 0 hsz
      have hslen := sizesF_len P L F 0 0
      obtain ⟨hRl, hRb⟩ := addrL_bd (F := F) hL hsz hP
      have hS := HR.out
      unfold solveT at hS
      unfold IntRet at hsi
      generalize sizesF P L F 0 0 = S at hsi hsb hslen hS
      generalize addrL L F P = D at hnew hRl hRb hS
      have HSi := Lib.hid hsi
      have HS := Lib.hid hS
      have HDl := Lib.hid hRl
      have HDb := Lib.hid hRb
      have HSb := Lib.hid hsb
      have HSl2 := Lib.hid hslen
      clear hsi hS hRl hRb hsb hslen
      go_wp2_with (fail)
      ((with_reducible refine hnew.mono ?_); rintro e wN ⟨b, rfl, hbN, hD, hBN⟩)
      clear hnew
      go_wp2_with (fail)
      ((with_reducible refine (HSi.out wN hBN).mono ?_); rintro e w6 ⟨⟨A6, c6, rfl, _, hat6, hq6⟩, hb6⟩)
      have b6 := (hb.trans (hBN.mono hb.size)).trans (hb6.mono (Nat.le_trans hb.size hBN.size))
      have hD6 := hD.below hb6
      have hDN := fun W h => DeskAt.below (w' := W) hD6 h
      have HD := Lib.hid hDN
      obtain ⟨_, _, _, _, _, _, _, _, AA, cAA, hblk, _, _, _, _, _, hAA⟩ := hD6
      obtain ⟨gA, oA, rfl, ca⟩ := hAA.row (show L.length < D.length by have := HDl.out; omega) (Below.refl _ _)
      obtain ⟨gS, oS, rfl, cs⟩ := hat6.row (show L.length < S.length by have := HSl2.out; omega) (Below.refl _ _)
      have kd : w6.cell? ⟨b, 4, none⟩ = some (.slice (some ⟨gA, oA, none⟩) D.length cAA) := by simp [World.cell?, hblk]
      have ha := mem_getD HDb.out (by omega) L.length
      have hs := mem_getD HSb.out (by omega) L.length
      have hlD : L.length < D.length := by have := HDl.out; omega
      have hlS : L.length < S.length := by have := HSl2.out; omega
      obtain ⟨a0, ha0⟩ : ∃ a, Hid (a = D.getD L.length 0) := ⟨_, Lib.hid rfl⟩
      obtain ⟨s0, hs0⟩ : ∃ a, Hid (a = S.getD L.length 0) := ⟨_, Lib.hid rfl⟩
      rw [← ha0.out] at ca ha
      rw [← hs0.out] at cs hs
      have hws : IntKind.i64.wrap (a0 + s0) = a0 + s0 := by rw [IntWalk.i64_left]; unfold wrap64; omega
      clear hDN hD hblk hAA
      go_wp2_with (fail)
      have hz6 : w6.drew.heap[w.heap.size]? = some (.cells #[.int .i64 0, .int .i64 0] 33 (0, 0)) := (b6.block w.heap.size hz0l).trans HZ.out
      have B6 := bw.trans (b6.mono bw.size)
      have BD := B6.drew
      have HFm := Lib.hid (show ∀ W, Below w6.drew.heap.size w6.drew W → ∀ i, i < F.length → ∃ g o, Af = some ⟨g, o, none⟩ ∧ W.cell? ⟨g, o + i, none⟩ = some (.int .i64 (F.getD i 0)) from fun W h i hi => hat.row hi ((hBN.trans ((hb6.mono hBN.size).drew)).trans (h.mono (Nat.le_trans hBN.size hb6.size))))
      have HAt := Lib.hid (show ∀ W, Below w6.drew.heap.size w6.drew W → IAt W W.heap.size Af F from fun W h => (hat.below ((hBN.trans ((hb6.mono hBN.size).drew)).trans (h.mono (Nat.le_trans hBN.size hb6.size))) (Nat.le_refl _)).more (Nat.le_trans (Nat.le_trans hBN.size hb6.size) h.size))
      have HDD := Lib.hid (show ∀ W, Below w6.drew.heap.size w6.drew W → DeskAt W b L P V (insideL L) D from fun W h => HD.out W ((Below.refl w6.heap.size w6).drew.trans h))
      have HBW := Lib.hid (show Below W0.heap.size W0 w6.drew from b6.drew)
      go_region_with (fail)
      all_goals (
        clear ca cs kd hat6
        generalize w6.drew = w7 at hz6 BD HFm HAt HDD HBW ⊢
        have e0 := fault_put (a := .int .i64 2) (b := .int .i64 0) hz6
        have BX := (BD.setCell (p := ⟨w.heap.size, 0, none⟩) (Nat.le_refl _) (.int .i64 2)).setCell (p := ⟨w.heap.size, 1, none⟩) (Nat.le_refl _) (.int .i64 0)
        have fz : ∀ j, w7.frozen? ⟨w.heap.size, j, none⟩ = false := fun j => by simp [World.frozen?, hz6]
        have cz : w7.cell? ⟨w.heap.size, 0, none⟩ = some (.int .i64 0) ∧ w7.cell? ⟨w.heap.size, 1, none⟩ = some (.int .i64 0) := by simp [World.cell?, hz6]
        obtain ⟨cz0, cz1⟩ := cz
        have fz0 := fz 0
        have fz1 := fz 1
        clear fz
        cases u : decide (1048576 < a0 + s0)
        · have hRR : R = (match firstBad L (insideL L) P V D F 0 L with | some i => ([], 0, 8, (i : Int) + 1) | none => (F, (n : Int), 0, 0)) := HS.out.trans (if_neg (by rw [← ha0.out, ← hs0.out]; exact of_decide_eq_false u))
          clear HS e0 BX fz0 fz1 cz0 cz1
          obtain ⟨fb, hfb⟩ : ∃ fb, Hid (firstBad L (insideL L) P V D F 0 L = fb) := ⟨_, Lib.hid rfl⟩
          rw [hfb.out] at hRR
          have HRR := Lib.hid hRR
          have HZ7 := Lib.hid (show ∀ W, Below w7.heap.size w7 W → W.heap[w.heap.size]? = some (.cells #[.int .i64 0, .int .i64 0] 33 (0, 0)) from fun W h => (h.block w.heap.size (Nat.lt_of_lt_of_le hz0l HBW.out.size)).trans hz6)
          clear hRR hz6
          go_wp2_with (fail)
          go_loopw [58] (fun t wr => ∃ i : Nat, t = .int .i64 i ∧ i ≤ L.length ∧ Hid (firstBad L (insideL L) P V D F i (L.drop i) = fb) ∧ Below w7.heap.size w7 wr) (fun t _ => L.length - (intOf t).toNat)
          case atStart => exact ⟨0, rfl, Nat.zero_le _, Lib.hid (by rw [List.drop_zero]; exact hfb.out), Below.refl _ _⟩
          case round =>
            obtain ⟨i, rfl, hi, he, hb9⟩ := hrel
            by_cases hlt : i < L.length
            · have u0 : decide ((i : Int) < (L.length : Int)) = true := decide_eq_true (by omega)
              have B9 := BD.trans (hb9.mono BD.size)
              obtain ⟨g, off, o, n2, s, A2, m, c, rfl, hgl, hok, hline⟩ := hA.line (fun _ h => h) hlt
              have hl0 := (hline wr B9).1
              have hE := he.out
              rw [List.drop_eq_getElem_cons hlt, firstBad] at hE
              unfold badY at hE
              obtain ⟨V1, hV, bV, sV, hzV, hth⟩ := line_copy wr L[i] o n2 s A2 m c
              have bWV := hb9.trans (bV.mono hb9.size)
              have hof := fun W (h : Below w7.heap.size w7 W) => offset_d hL hP hPl hVl HDl.out HDb.out hlt (F.getD i 0) (HDD.out W h)
              have hft := fun x W (h : Below w7.heap.size w7 W) hl => fits_d HI.out hlt (F.getD i 0) x (HDD.out W h) hl
              have hrc := fun o n s A2 m c => reach_l L[i] (.int .i64 o) (.int .i64 n) (.string (tx s)) (.slice A2 m c)
              generalize reachB L[i] = rb at hE hrc
              generalize offY L P V D i L[i] (F.getD i 0) = z at hE hof
              generalize fitY L[i] ((insideL L).getD i false) (F.getD i 0) = fi at hE hft
              generalize hnb : firstBad L (insideL L) P V D F (i + 1) (L.drop (i + 1)) = nb at hE
              have HNB := Lib.hid hnb
              clear hnb
              generalize L[i] = y at hl0 hV hzV hrc
              obtain ⟨fv, hfv⟩ : ∃ f, Hid (f = F.getD i 0) := ⟨_, Lib.hid rfl⟩
              rw [← hfv.out] at hof hft
              have hiF : i < F.length := by have := hFl.out; omega
              obtain ⟨gF, oF, rfl, _⟩ := HFm.out w7 (Below.refl _ _) i hiF
              have hcF : ∀ W, Below w7.heap.size w7 W → W.cell? ⟨gF, oF + i, none⟩ = some (.int .i64 fv) := fun W h => by
                obtain ⟨g', o', e', c'⟩ := HFm.out W h i hiF
                simp only [Option.some.injEq, Addr.mk.injEq, and_true] at e'
                obtain ⟨rfl, rfl⟩ := e'
                rw [hfv.out]; exact c'
              have HE := Lib.hid hE
              have HOf := Lib.hid hof
              have HFt := Lib.hid hft
              have HRc := Lib.hid hrc
              have HcF := Lib.hid hcF
              dsimp only [lwX, lwC] at hl0
              clear hE hof hft hrc hcF hline hok he
              go_wp2_with (with_reducible show wpList _ _ _ (_ :: _) _ _; refine wpList_stop 62 rfl ?_)
              refine Lib.hid ?_
              refine wpList_load_row rfl 49 (.tmp 61) rfl g (off + i * 19) (by rfl) _ hl0 _ Tryz.underlying49 rfl (by kernel_rfl) ?_
              go_wp2_with (with_reducible show wpList _ _ _ (_ :: _) _ _; refine wpList_stop 15 rfl ?_)
              refine Lib.hid ?_
              refine wpList_allocW rfl (.cells lwZ 49) wr.heap.size rfl (alloc_line _ _ _ _ _ _) ?_
              refine Hid.out ?_
              refine Lib.hid ?_
              go_wp2_with (with_reducible show wpList _ _ _ (_ :: _) _ _; refine wpList_stopS rfl ?_)
              refine Lib.hid ?_
              refine wpList_store_mid rfl 49 (.tmp 15) (.tmp 62) rfl wr.heap.size 0 (lwX y o n2 s A2 m c) (by rfl) (by rfl) hth (by kernel_rfl) (lwC_one _ _ _ _ _ _ _) ?_; rw [← hV.out]
              refine Hid.out ?_
              refine Lib.hid ?_
              go_wp2_with (with_reducible show wpList _ _ _ (_ :: _) _ _; refine wpList_stop 63 rfl ?_)
              refine Lib.hid ?_
              refine wpList_load_blk rfl 49 (.tmp 15) rfl wr.heap.size (by rfl) _ hzV _ Tryz.underlying49 rfl (by kernel_rfl) ?_
              go_wp2_with (fail)
              ((with_reducible refine (HRc.out o n2 s A2 m c V1).mono ?_); rintro e w5 ⟨rfl, hb5⟩)
              have b5 := bWV.trans (hb5.mono bWV.size)
              cases rb
              · skip
                have hx : firstBad L (insideL L) P V D F (i + 1) (L.drop (i + 1)) = fb := HNB.out.trans (by simpa using HE.out)
                go_wp2_with (fail)
                first
                  | (go_roundw; case rel => exact ⟨i + 1, by go_num, by omega, Lib.hid hx, b5⟩; case measure => (simp [intOf]; omega))
                  | exact ⟨⟨i + 1, by go_num, by omega, Lib.hid hx, b5⟩, by simp [intOf]; omega⟩
              have c5 := HcF.out w5 b5
              go_wp2_with (fail)
              ((with_reducible refine (HOf.out w5 b5).mono ?_); rintro e w6' ⟨⟨x, rfl, hx6⟩, hb6'⟩)
              have b6' := b5.trans (hb6'.mono b5.size)
              rcases z with _ | z
              · skip
                have u1 : (none : Option Int).isSome = false := rfl
                have hfbs : fb = some i := by simpa using HE.out.symm
                subst hfbs
                have hR2 : R = ([], 0, 8, (i : Int) + 1) := HRR.out
                clear HRR HE hfb
                subst hR2
                have hz9 := HZ7.out w6' b6'
                have e0 := fault_put (a := .int .i64 8) (b := .int .i64 ((i : Int) + 1)) hz9
                have BX := ((BD.trans (b6'.mono BD.size)).setCell (p := ⟨w.heap.size, 0, none⟩) (Nat.le_refl _) (.int .i64 8)).setCell (p := ⟨w.heap.size, 1, none⟩) (Nat.le_refl _) (.int .i64 ((i : Int) + 1))
                have fz0 : w6'.frozen? ⟨w.heap.size, 0, none⟩ = false := by simp [World.frozen?, hz9]
                have fz1 : w6'.frozen? ⟨w.heap.size, 1, none⟩ = false := by simp [World.frozen?, hz9]
                have cz0 : w6'.cell? ⟨w.heap.size, 0, none⟩ = some (.int .i64 0) := by simp [World.cell?, hz9]
                have cz1 : w6'.cell? ⟨w.heap.size, 1, none⟩ = some (.int .i64 0) := by simp [World.cell?, hz9]
                clear hz9
                go_wp2_with (fail)
                exact bodyPost_ret (results_ttc rfl _ _ w.heap.size 33 _ (0, 0) _ rfl e0 Tryz.underlying33 rfl (by kernel_rfl)) rfl ⟨⟨none, 0, rfl, IAt.nil _ _ _, fun q o h => (by cases h), Nat.le_refl _⟩, BX⟩
              have u1 : (some z).isSome = true := rfl
              have hxz := hx6 z rfl
              subst hxz
              have c6 := HcF.out w6' b6'
              have hl6 := laid_lw HW.out (HBW.out.trans (b6'.mono HBW.out.size))
              go_wp2_with (fail)
              ((with_reducible refine (HFt.out x w6' b6' hl6).mono ?_); rintro e w8 ⟨rfl, hb8⟩)
              have b8 := b6'.trans (hb8.mono b6'.size)
              cases hfi : fi x
              · skip
                have hfbs : fb = some i := by have := HE.out.symm; simpa [hfi] using this
                subst hfbs
                have hR2 : R = ([], 0, 8, (i : Int) + 1) := HRR.out
                clear HRR HE hfb
                subst hR2
                have hz9 := HZ7.out w8 b8
                have e0 := fault_put (a := .int .i64 8) (b := .int .i64 ((i : Int) + 1)) hz9
                have BX := ((BD.trans (b8.mono BD.size)).setCell (p := ⟨w.heap.size, 0, none⟩) (Nat.le_refl _) (.int .i64 8)).setCell (p := ⟨w.heap.size, 1, none⟩) (Nat.le_refl _) (.int .i64 ((i : Int) + 1))
                have fz0 : w8.frozen? ⟨w.heap.size, 0, none⟩ = false := by simp [World.frozen?, hz9]
                have fz1 : w8.frozen? ⟨w.heap.size, 1, none⟩ = false := by simp [World.frozen?, hz9]
                have cz0 : w8.cell? ⟨w.heap.size, 0, none⟩ = some (.int .i64 0) := by simp [World.cell?, hz9]
                have cz1 : w8.cell? ⟨w.heap.size, 1, none⟩ = some (.int .i64 0) := by simp [World.cell?, hz9]
                clear hz9
                go_wp2_with (fail)
                exact bodyPost_ret (results_ttc rfl _ _ w.heap.size 33 _ (0, 0) _ rfl e0 Tryz.underlying33 rfl (by kernel_rfl)) rfl ⟨⟨none, 0, rfl, IAt.nil _ _ _, fun q o h => (by cases h), Nat.le_refl _⟩, BX⟩
              · skip
                have hx : firstBad L (insideL L) P V D F (i + 1) (L.drop (i + 1)) = fb := HNB.out.trans (by have := HE.out; simpa [hfi] using this)
                go_wp2_with (fail)
                first
                  | (go_roundw; case rel => exact ⟨i + 1, by go_num, by omega, Lib.hid hx, b8⟩; case measure => (simp [intOf]; omega))
                  | exact ⟨⟨i + 1, by go_num, by omega, Lib.hid hx, b8⟩, by simp [intOf]; omega⟩
            · obtain rfl : i = L.length := by omega
              have u0 : decide ((L.length : Int) < (L.length : Int)) = false := decide_eq_false (by omega)
              have hE := he.out
              rw [List.drop_eq_nil_of_le (Nat.le_refl _)] at hE
              have hE2 : fb = none := hE.symm
              subst hE2
              have hR2 : R = (F, (n : Int), 0, 0) := HRR.out
              clear HRR hE he hfb
              subst hR2
              have hz9 := HZ7.out wr hb9
              have e0 := fault_put (a := .int .i64 0) (b := .int .i64 0) hz9
              have BX := ((BD.trans (hb9.mono BD.size)).setCell (p := ⟨w.heap.size, 0, none⟩) (Nat.le_refl _) (.int .i64 0)).setCell (p := ⟨w.heap.size, 1, none⟩) (Nat.le_refl _) (.int .i64 0)
              have fz0 : wr.frozen? ⟨w.heap.size, 0, none⟩ = false := by simp [World.frozen?, hz9]
              have fz1 : wr.frozen? ⟨w.heap.size, 1, none⟩ = false := by simp [World.frozen?, hz9]
              have cz0 : wr.cell? ⟨w.heap.size, 0, none⟩ = some (.int .i64 0) := by simp [World.cell?, hz9]
              have cz1 : wr.cell? ⟨w.heap.size, 1, none⟩ = some (.int .i64 0) := by simp [World.cell?, hz9]
              clear hz9
              have hat9 : IAt ((wr.setCell ⟨w.heap.size, 0, none⟩ (.int .i64 0)).setCell ⟨w.heap.size, 1, none⟩ (.int .i64 0)) ((wr.setCell ⟨w.heap.size, 0, none⟩ (.int .i64 0)).setCell ⟨w.heap.size, 1, none⟩ (.int .i64 0)).heap.size Af F := by
                intro hne
                obtain ⟨g, o, e, hg, hc⟩ := HAt.out wr hb9 hne
                have hg2 := hqf.out.1 g o e
                refine ⟨g, o, e, by simpa [World.setCell] using hg, fun j v hv => ?_⟩
                rw [World.cell?_of_block (w := wr.setCell ⟨w.heap.size, 0, none⟩ (.int .i64 0)) (Below.heap_setCell _ _ _ _ (by show g ≠ w.heap.size; omega)), World.cell?_of_block (w := wr) (Below.heap_setCell _ _ _ _ (by show g ≠ w.heap.size; omega))]
                exact hc j v hv
              go_wp2_with (fail)
              exact bodyPost_ret (results_ttc rfl _ _ w.heap.size 33 _ (0, 0) _ rfl e0 Tryz.underlying33 rfl (by kernel_rfl)) rfl ⟨⟨Af, cf, rfl, hat9, fun q o h => Nat.le_trans bw.size (hqf.out.1 q o h), hqf.out.2⟩, BX⟩
        · have hRR : R = ([], 0, 2, 0) := HS.out.trans (if_pos (by rw [← ha0.out, ← hs0.out]; exact of_decide_eq_true u))
          clear HS
          subst hRR
          go_wp2_with (fail)
          exact bodyPost_ret (results_ttc rfl _ _ w.heap.size 33 _ (0, 0) _ rfl e0 Tryz.underlying33 rfl (by kernel_rfl)) rfl ⟨⟨none, 0, rfl, IAt.nil _ _ _, fun q o h => (by cases h), Nat.le_refl _⟩, BX⟩)
    · have hgr := grow_l L hL hsz F hFo.out hFl.out P hP hPl V hVl A Af AP AV cA cf cP cV hcA wr (hA.keep (fun g hg => Nat.lt_of_lt_of_le hg bwr.size) (fun g hg => bwr.block g hg)) hat ((hAP.below bwr (Nat.le_refl _)).more bwr.size) ((hAV.below bwr (Nat.le_refl _)).more bwr.size) (laid_lw HW.out hb)
      have hst2 := left_step hFl.out hFo.out hle.out
      have hk := hle.out.1 rfl
      have hGl := growL_len L (insideL L) P V F
      have hGo := (growL_ok L (insideL L) P V hFl.out hFo.out).1
      have hlt : n < N := by obtain ⟨_, _, _, h⟩ := hk; exact h
      generalize decide (growL L (insideL L) P V F ≠ F) = m2 at hgr hst2
      generalize growL L (insideL L) P V F = F2 at hgr hst2 hGl hGo
      have HS2 := Lib.hid hst2
      have HGl := Lib.hid hGl
      have HGo := Lib.hid hGo
      unfold GrowRet at hgr
      clear hst2 hk hGl hGo hat
      go_wp2_with (fail)
      ((with_reducible refine hgr.mono ?_); rintro e w5 ⟨⟨A5, c5, rfl, hat5, hq5, hc5⟩, hb5⟩)
      have b5 := hb.trans (hb5.mono hb.size)
      go_wp2_with (fail)
      first
        | exact ⟨⟨F2, n + 1, m2, A5, c5, rfl, by go_num, rfl, HGl, HGo, hat5, Lib.hid ⟨fun q o h => Nat.le_trans hb.size (hq5 q o h), hc5⟩, HS2, by omega, b5⟩, by simp [intOf]; omega⟩
        | (go_roundw; case rel => exact ⟨F2, n + 1, m2, A5, c5, rfl, by go_num, rfl, HGl, HGo, hat5, Lib.hid ⟨fun q o h => Nat.le_trans hb.size (hq5 q o h), hc5⟩, HS2, by omega, b5⟩; case measure => (simp [intOf]; omega))
end Go.Proofs.YtpdkpkabdkefcaaGreatDoor
