/- For the seat: texts joined: ExF, ExG, ExH. -/
import Derived.Test.YtpdkpkabdkefcaaGreatDoorJAd
set_option maxRecDepth 100000
namespace Go.Proofs.YtpdkpkabdkefcaaGreatDoor
open Go.Sx Go.ChangeShapes Go.WideShapes Go.RowKit Go.Joins Go.Deep Go.Rp
def leftR (T : List Tok) (b : Nat) (w : World) : Nat :=
  match w.cell? ⟨b, 1, none⟩, w.cell? ⟨b, 2, none⟩ with
  | some (.int _ i), some (.bool false) => 1 + (T.length - i.toNat)
  | _, _ => 0
theorem leftR_no {T : List Tok} {b : Nat} {A : Option Addr} {cap : Nat} {w : World} {i : Int} (h : Rd17 w b A cap T i true) : leftR T b w = 0 := by
  unfold leftR
  rw [h.c1, h.c2]
theorem leftR_yes {T : List Tok} {b : Nat} {A : Option Addr} {cap : Nat} {w : World} {i : Int} (h : Rd17 w b A cap T i false) : leftR T b w = 1 + (T.length - i.toNat) := by
  unfold leftR
  rw [h.c1, h.c2]
structure LoopAt (T : List Tok) (b : Nat) (A : Option Addr) (cap : Nat) (R : Option (Et × Nat)) (lvl : Int) (f t5 : Nat) (w W : World) (x : Et) (o n : Int) (s : Bs) (A' : Option Addr) (k cap' : Nat) (j : Nat) (bad : Bool) (F : Nat) : Prop where
  q5 : W.heap[t5]? = some (.cells (exC o n s A' k cap') 47 (0, 0))
  q4 : W.heap[w.heap.size]? = some (.cells (exC 0 0 [] none 0 0) 47 (0, 0))
  at_ : ExAt W (fun g => w.heap.size < g ∧ g ≠ t5 ∧ g < W.heap.size) x (.agg (exC o n s A' k cap'))
  rd : Rd17 W b A cap T j bad
  le : j ≤ T.length
  stay : Stay b w W
  no : bad = true → R = none
  yes : bad = false → 16 * (T.length - j) + 10 ≤ F ∧ F ≤ f ∧ loopF T F lvl x j = R
theorem LoopAt.below {T : List Tok} {b : Nat} {A : Option Addr} {cap : Nat} {R : Option (Et × Nat)} {lvl : Int} {f t5 : Nat} {w W W' : World} {x : Et} {o n : Int} {s : Bs} {A' : Option Addr} {k cap' j : Nat} {bad : Bool} {F : Nat}
    (h : LoopAt T b A cap R lvl f t5 w W x o n s A' k cap' j bad F) (hb : Below W.heap.size W W') : LoopAt T b A cap R lvl f t5 w W' x o n s A' k cap' j bad F :=
  ⟨(hb.block t5 (Array.getElem?_eq_some_iff.1 h.q5).1).trans h.q5, (hb.block _ (Array.getElem?_eq_some_iff.1 h.q4).1).trans h.q4, ExAt.keep (fun _ hg => ⟨hg.1, hg.2.1, Nat.lt_of_lt_of_le hg.2.2 hb.size⟩) (fun g hg => hb.block g hg.2.2) x _ h.at_,
    h.rd.below hb, h.le, h.stay.trans (Stay.of_below hb), h.no, h.yes⟩
theorem cells8 {W : World} {g : Nat} {t : TypeId} {c0 c1 c2 c3 d0 d1 d2 d3 : Value} (h : W.heap[g]? = some (.cells #[c0, c1, c2, c3, d0, d1, d2, d3] t (0, 0))) :
    (∀ (j : Nat) (u : Value), (#[c0, c1, c2, c3] : Array Value)[j]? = some u → W.cell? ⟨g, j, none⟩ = some u) ∧ (∀ (j : Nat) (u : Value), (#[d0, d1, d2, d3] : Array Value)[j]? = some u → W.cell? ⟨g, 4 + j, none⟩ = some u) := by
  constructor
  · intro j u hu
    match j, hu with
    | 0, hu => simp [World.cell?, h] at hu ⊢; exact hu
    | 1, hu => simp [World.cell?, h] at hu ⊢; exact hu
    | 2, hu => simp [World.cell?, h] at hu ⊢; exact hu
    | 3, hu => simp [World.cell?, h] at hu ⊢; exact hu
    | j + 4, hu => simp at hu
  · intro j u hu
    match j, hu with
    | 0, hu => simp [World.cell?, h] at hu ⊢; exact hu
    | 1, hu => simp [World.cell?, h] at hu ⊢; exact hu
    | 2, hu => simp [World.cell?, h] at hu ⊢; exact hu
    | 3, hu => simp [World.cell?, h] at hu ⊢; exact hu
    | j + 4, hu => simp at hu
theorem alloc2_cell4 {w : World} {g : Nat} {t : TypeId} {c0 c1 c2 c3 : Value} (h : w.heap[g]? = some (.cells #[c0, c1, c2, c3] t (0, 0))) :
    (∀ o o', ((w.alloc o).alloc o').cell? ⟨g, 0, none⟩ = some c0) ∧ (∀ o o', ((w.alloc o).alloc o').cell? ⟨g, 1, none⟩ = some c1) ∧ (∀ o o', ((w.alloc o).alloc o').cell? ⟨g, 2, none⟩ = some c2) ∧ (∀ o o', ((w.alloc o).alloc o').cell? ⟨g, 3, none⟩ = some c3) ∧ ∀ o o' j, ((w.alloc o).alloc o').frozen? ⟨g, j, none⟩ = false :=
  ⟨fun o => (alloc_cell4 (alloc_blk h o)).1, fun o => (alloc_cell4 (alloc_blk h o)).2.1, fun o => (alloc_cell4 (alloc_blk h o)).2.2.1, fun o => (alloc_cell4 (alloc_blk h o)).2.2.2.1, fun o => (alloc_cell4 (alloc_blk h o)).2.2.2.2⟩
set_option maxHeartbeats 4000000 in
theorem tm17 (T : List Tok) (hT : T.length ≤ 900000) (b : Nat) (A : Option Addr) (cap : Nat) (f : Nat) (ih : ∀ g, g ≤ f → UnOk T b A cap g ∧ TmOk T b A cap g) : TmOk T b A cap (f + 1) := by
  intro w n lvl h hn h1 h6 hf
  have hR : termF T (f + 1) lvl n = (if lvl = 6 then unF T f n else (termF T f (lvl + 1) n).bind fun p => loopF T f lvl p.1 p.2) := by rw [termF]
  generalize termF T (f + 1) lvl n = R at hR
  have HR := Lib.hid hR
  clear hR
  have b0 : Below w.heap.size w (w.alloc (.cells (exC 0 0 [] none 0 0) 47)) := (Below.refl _ _).alloc (Nat.le_refl _) _
  have h0 := h.below b0
  have hw0 : (w.alloc (.cells (exC 0 0 [] none 0 0) 47)).heap[w.heap.size]? = some (.cells (exC 0 0 [] none 0 0) 47 (0, 0)) := heap_alloc_new w _
  have hs0 : (w.alloc (.cells (exC 0 0 [] none 0 0) 47)).heap.size = w.heap.size + 1 := by simp
  have hlt := h.lt
  dsimp only [exC] at b0 h0 hw0 hs0
  by_cases hl6 : lvl = 6
  · subst hl6
    have hu := (ih f (Nat.le_refl _)).1 _ n h0 hn (by omega)
    have hR := HR.out
    rw [if_pos rfl] at hR
    have HR := Lib.hid hR
    clear hR ih
    go_enter Tryz.func168, Tryz.ntmps168
    go_wp2_with (fail)
    ((with_reducible refine hu.mono ?_); rintro e w9 ⟨x, C, j, bad, rfl, hr⟩)
    obtain ⟨o, m, s, A', k, cap', hC⟩ := hr.at_.cells
    obtain rfl := Value.agg.inj hC
    have g2 := (hr.stay.block w.heap.size (by omega) (by omega)).trans hw0
    obtain ⟨c0, c1, c2, c3⟩ := cell4 g2
    have cf := froz g2
    have s9 := hr.stay.size
    clear hu
    go_wp2_with (fail)
    refine bodyPost_ret (results_cell_row rfl _ _ w.heap.size 47 _ (0, 0) _ rfl (setA _ w.heap.size 47 _ _ _ _ _ _ _ _ g2) Tryz.underlying47 rfl (by kernel_rfl)) rfl
      ⟨x, _, j, bad, rfl, res_put hlt (ExAt.keep (fun g hg => by omega) (fun g hg => rfl) x _ hr.at_) hr.rd hr.le ((Stay.of_below b0).trans hr.stay) (fun p hp => hr.yes p (HR.out.symm.trans hp)) (fun hp => hr.no (HR.out.symm.trans hp))⟩
  · have hu := (ih f (Nat.le_refl _)).2 _ n (lvl + 1) h0 hn (by omega) (by omega) (by omega)
    have hR := HR.out
    rw [if_neg hl6] at hR
    have HR := Lib.hid hR
    clear hR
    have e6 : (lvl == 6) = false := by simpa using hl6
    have hlv : lvl = 1 ∨ lvl = 2 ∨ lvl = 3 ∨ lvl = 4 ∨ lvl = 5 := by omega
    have HI := Lib.hid ih
    clear ih
    go_enter Tryz.func168, Tryz.ntmps168
    go_wp2_with (fail)
    ((with_reducible refine hu.mono ?_); rintro e w9 ⟨x, C, j, bad, rfl, hr⟩)
    obtain ⟨o, m, s, A', k, cap', hC⟩ := hr.at_.cells
    obtain rfl := Value.agg.inj hC
    have g2 := (hr.stay.block w.heap.size (by omega) (by omega)).trans hw0
    have s9 := hr.stay.size
    rw [hs0] at s9
    clear hu
    have hL : LoopAt T b A cap R lvl f w9.heap.size w (w9.alloc (.cells (exC o m s A' k cap') 47)) x o m s A' k cap' j bad f := by
      have hA : Below w9.heap.size w9 (w9.alloc (.cells (exC o m s A' k cap') 47)) := (Below.refl _ _).alloc (Nat.le_refl _) _
      have hsz : (w9.alloc (.cells (exC o m s A' k cap') 47)).heap.size = w9.heap.size + 1 := by simp
      refine ⟨heap_alloc_new w9 _, alloc_blk g2 _, ExAt.keep (fun g hg => by rw [hsz]; omega) (fun g hg => hA.block g hg.2) x _ hr.at_, hr.rd.below hA, hr.le, ((Stay.of_below b0).trans hr.stay).trans (Stay.of_below hA), fun hb => ?_, fun hb => ?_⟩
      · rw [HR.out]
        cases hq : termF T f (lvl + 1) n with
        | none => rfl
        | some p =>
          have := (hr.yes p hq).1
          rw [hb] at this
          cases this
      · cases hq : termF T f (lvl + 1) n with
        | none =>
          have := hr.no hq
          rw [hb] at this
          cases this
        | some p =>
          obtain ⟨_, rfl, rfl⟩ := hr.yes p hq
          have hg := (term_gt T f).1 (lvl + 1) n p.1 p.2 hq
          refine ⟨by omega, Nat.le_refl _, ?_⟩
          rw [HR.out, hq]
          rfl
    clear hr b0 h0 hw0 hs0 g2 h hC
    dsimp only [exC] at hL
    go_wp2_with (fail)
    generalize hW : w9.alloc (.cells #[.int .i64 o, .int .i64 m, .string (tx s), .slice A' k cap'] 47) = W9 at hL
    clear hW
    go_loopw [6] (fun v wr => ∃ (x : Et) (o n : Int) (s : Bs) (A' : Option Addr) (k cap' : Nat) (j : Nat) (bad : Bool) (F : Nat), LoopAt T b A cap R lvl f w9.heap.size w wr x o n s A' k cap' j bad F) (fun _ wr => leftR T b wr)
    case atStart => exact ⟨x, o, m, s, A', k, cap', j, bad, f, hL⟩
    case round =>
      clear hL
      obtain ⟨x, o, m, s, A', k, cap', j, bad, F, hL⟩ := hrel
      have c2 := hL.rd.c2
      cases bad
      rotate_left
      · obtain ⟨c0, c1, c2', c3⟩ := cell4 hL.q4
        obtain ⟨d0, d1, d2, d3⟩ := cell4 hL.q5
        have cf := froz hL.q4
        go_wp2_with (fail)
        refine bodyPost_ret (results_cell_row rfl _ _ w.heap.size 47 _ (0, 0) _ rfl (setA _ w.heap.size 47 _ _ _ _ _ _ _ _ hL.q4) Tryz.underlying47 rfl (by kernel_rfl)) rfl
          ⟨x, _, j, _, rfl, res_put hlt (ExAt.keep (fun g hg => ⟨hg.1, hg.2.2⟩) (fun g hg => rfl) x _ hL.at_) hL.rd hL.le hL.stay (fun p hp => by rw [hL.no rfl] at hp; cases hp) (fun _ => rfl)⟩
      · have hop := op17 hL.rd lvl hlv
        go_wp2_with (fail)
        ((with_reducible refine hop.mono ?_); rintro e w10 ⟨rfl, hb10⟩)
        have hL1 := hL.below hb10
        obtain ⟨y1, y2, y3⟩ := hL.yes rfl
        have m0 := leftR_yes hL.rd
        clear hop c2 hL
        cases e0 : (opT (tokA T j) lvl == 0)
        rotate_left
        · have e0' : opT (tokA T j) lvl = 0 := by simpa using e0
          have hR : R = some (x, j) := by
            rw [← y3]
            match F, y1 with
            | F + 1, _ => rw [loopF, if_pos e0']
          have HR2 := Lib.hid hR
          clear hR y3
          obtain ⟨c0, c1, c2', c3⟩ := cell4 hL1.q4
          obtain ⟨d0, d1, d2, d3⟩ := cell4 hL1.q5
          have cf := froz hL1.q4
          go_wp2_with (fail)
          refine bodyPost_ret (results_cell_row rfl _ _ w.heap.size 47 _ (0, 0) _ rfl (setA _ w.heap.size 47 _ _ _ _ _ _ _ _ hL1.q4) Tryz.underlying47 rfl (by kernel_rfl)) rfl
            ⟨x, _, j, _, rfl, res_put hlt (ExAt.keep (fun g hg => ⟨hg.1, hg.2.2⟩) (fun g hg => rfl) x _ hL1.at_) hL1.rd hL1.le hL1.stay (fun p hp => by rw [HR2.out] at hp; obtain rfl := Option.some.inj hp; exact ⟨rfl, rfl, rfl⟩) (fun hp => by rw [HR2.out] at hp; cases hp)⟩
        · have e0' : opT (tokA T j) lvl ≠ 0 := by simpa using e0
          obtain ⟨F', rfl⟩ : ∃ F', F = F' + 1 := ⟨F - 1, by omega⟩
          have hlj := opT_lt e0'
          rw [loopF, if_neg e0'] at y3
          have Y3 := Lib.hid y3
          have hrd : Rd17 (w10.setCell ⟨b, 1, none⟩ (.int .i64 ((j : Int) + 1))) b A cap T ((j + 1 : Nat) : Int) false := by
            rw [show ((j + 1 : Nat) : Int) = (j : Int) + 1 by omega]
            exact hL1.rd.set1 _
          have hu := (HI.out F' (by omega)).2 _ (j + 1) (lvl + 1) hrd (by omega) (by omega) (by omega) (by omega)
          have c1 := hL1.rd.c1
          have cf1 := hL1.rd.fz 1
          generalize opT (tokA T j) lvl = op at e0 e0' Y3
          clear y3
          go_wp2_with (fail)
          ((with_reducible refine hu.mono ?_); rintro e w12 ⟨x', C', j', bad', rfl, hr⟩)
          obtain ⟨o', n', s', A2, k2, cap2, hC'⟩ := hr.at_.cells
          obtain rfl := Value.agg.inj hC'
          have s10 := hL1.rd.lt
          have ss : (w10.setCell ⟨b, 1, none⟩ (.int .i64 ((j : Int) + 1))).heap.size = w10.heap.size := by simp [World.setCell]
          have z5 := (Array.getElem?_eq_some_iff.1 hL1.q5).1
          have z4 := (Array.getElem?_eq_some_iff.1 hL1.q4).1
          have p5 := (hr.stay.block w9.heap.size (by rw [ss]; exact z5) (by omega)).trans (set_blk hL1.q5 (by omega) 1 _)
          have p4 := (hr.stay.block w.heap.size (by rw [ss]; exact z4) (by omega)).trans (set_blk hL1.q4 (by omega) 1 _)
          have hx := ExAt.keep (K := fun g => w.heap.size < g ∧ g ≠ w9.heap.size ∧ g < w10.heap.size) (K' := fun g => w.heap.size < g ∧ g ≠ w9.heap.size ∧ g < w12.heap.size) (w' := w12) (fun g hg => ⟨hg.1, hg.2.1, by have := hr.stay.size; rw [ss] at this; omega⟩) (fun g hg => (hr.stay.block g (by rw [ss]; exact hg.2.2) (by omega)).trans (Below.heap_setCell w10 ⟨b, 1, none⟩ _ g (by show g ≠ b; omega))) x _ hL1.at_
          have s12 := hr.stay.size
          rw [ss] at s12
          obtain ⟨c0, c1', c2, c3, cf⟩ := alloc_cell4 p5
          obtain ⟨f0, f1, f2, f3, ff⟩ := alloc2_cell4 p5
          have hSt : Stay b w w12 := (hL1.stay.trans (Stay.set w10 1 _)).trans hr.stay
          clear hu hrd c1 cf1
          go_wp2_with (fail)
          have hq : (∀ p, termF T F' (lvl + 1) (j + 1) = some p → bad' = false ∧ x' = p.1 ∧ j' = p.2 ∧ j + 1 < j') ∧ (termF T F' (lvl + 1) (j + 1) = none → bad' = true) := by
            refine ⟨fun p hp => ?_, hr.no⟩
            obtain ⟨a1, a2, a3⟩ := hr.yes p hp
            have := ((term_gt T F').1 (lvl + 1) (j + 1) p.1 p.2 hp).1
            exact ⟨a1, a2, a3, by omega⟩
          generalize hW : ((((((w12.alloc (.cells #[.int .i64 o', .int .i64 n', .string (tx s'), .slice A2 k2 cap2] 47)).alloc (.cells #[.int .i64 o, .int .i64 m, .string (tx s), .slice A' k cap', .int .i64 o', .int .i64 n', .string (tx s'), .slice A2 k2 cap2] 47)).setCell ⟨w9.heap.size, 0, none⟩ (.int .i64 op)).setCell ⟨w9.heap.size, 1, none⟩ (.int .i64 0)).setCell ⟨w9.heap.size, 2, none⟩ (.string ⟨#[]⟩)).setCell ⟨w9.heap.size, 3, none⟩ (.slice (some ⟨w12.heap.size + 1, 0, none⟩) 2 2)) = Wn
          have hold : ∀ q, q < w12.heap.size → q ≠ w9.heap.size → Wn.heap[q]? = w12.heap[q]? := by
            intro q h1 h2
            rw [← hW, setA_old _ _ _ _ _ _ q h2, Below.heap_alloc _ _ _ (by simp; omega), Below.heap_alloc _ _ _ h1]
          have hsz : Wn.heap.size = w12.heap.size + 2 := by rw [← hW, setA_size]; simp
          have hnew : Wn.heap[w12.heap.size + 1]? = some (.cells #[.int .i64 o, .int .i64 m, .string (tx s), .slice A' k cap', .int .i64 o', .int .i64 n', .string (tx s'), .slice A2 k2 cap2] 47 (0, 0)) := by
            rw [← hW, setA_old _ _ _ _ _ _ _ (by omega)]
            have := heap_alloc_new (w12.alloc (.cells #[.int .i64 o', .int .i64 n', .string (tx s'), .slice A2 k2 cap2] 47)) (.cells #[.int .i64 o, .int .i64 m, .string (tx s), .slice A' k cap', .int .i64 o', .int .i64 n', .string (tx s'), .slice A2 k2 cap2] 47)
            simpa using this
          have q5 : Wn.heap[w9.heap.size]? = some (.cells (exC op 0 [] (some ⟨w12.heap.size + 1, 0, none⟩) 2 2) 47 (0, 0)) := by
            rw [← hW]
            exact setA _ w9.heap.size 47 _ _ _ _ _ _ _ _ (alloc_blk (alloc_blk p5 _) _)
          have hrd : Rd17 Wn b A cap T j' bad' := hr.rd.of fun q hq => hold q (by omega) (by omega)
          have hsw : Stay b w Wn := by
            refine ⟨?_, ?_, ?_, by omega, fun q h1 h2 => (hold q (by omega) (by omega)).trans (hSt.block q h1 h2)⟩
            · rw [← hW]; exact hSt.os
            · rw [← hW]; exact hSt.tape
            · rw [← hW]; exact hSt.output
          have hc8 := cells8 hnew
          have hsl := hSt.size
          have hle := hr.le
          have ha : ExAt Wn (fun g => w.heap.size < g ∧ g ≠ w9.heap.size ∧ g < Wn.heap.size) (.mk op 0 [] [x, x']) (.agg (exC op 0 [] (some ⟨w12.heap.size + 1, 0, none⟩) 2 2)) := by
            refine exAt2 op 0 [] (by simp) (by rw [hsz]; omega) (ExAt.keep (fun g hg => by rw [hsz]; omega) (fun g hg => hold g (by omega) (by omega)) x _ hx) (ExAt.keep (fun g hg => ?_) (fun g hg => hold g (by omega) ?_) x' _ hr.at_) hc8.1 hc8.2
            · rw [ss] at hg
              rw [hsz]
              omega
            · rw [ss] at hg
              omega
          have p4' := (hold w.heap.size (by omega) (by omega)).trans p4
          clear hW hold hr hx p5 p4 hc8 hnew
          refine ⟨⟨.mk op 0 [] [x, x'], op, 0, [], some ⟨w12.heap.size + 1, 0, none⟩, 2, 2, j', bad', F', ⟨q5, ?_, ha, hrd, hle, hsw, fun hb => ?_, fun hb => ?_⟩⟩, ?_⟩
          · exact p4'
          · rw [← Y3.out]
            cases hp : termF T F' (lvl + 1) (j + 1) with
            | none => rfl
            | some p =>
              have := (hq.1 p hp).1
              rw [hb] at this
              cases this
          · cases hp : termF T F' (lvl + 1) (j + 1) with
            | none =>
              have := hq.2 hp
              rw [hb] at this
              cases this
            | some p =>
              obtain ⟨_, rfl, rfl, hj⟩ := hq.1 p hp
              refine ⟨by omega, by omega, ?_⟩
              rw [← Y3.out, hp]
              rfl
          · rw [m0]
            cases bad'
            · rw [leftR_yes hrd]
              cases hp : termF T F' (lvl + 1) (j + 1) with
              | none => cases hq.2 hp
              | some p =>
                have := (hq.1 p hp).2.2.2
                omega
            · rw [leftR_no hrd]
              omega
end Go.Proofs.YtpdkpkabdkefcaaGreatDoor
namespace Go.Proofs.YtpdkpkabdkefcaaGreatDoor
open Go.Sx Go.ChangeShapes Go.WideShapes Go.RowKit Go.Joins Go.Deep Go.Rp
theorem deepL_at {a : List Et} {i : Nat} (h : i < a.length) (m : Int) : Et.deepL (a.drop i) m = (a[i].deep m || Et.deepL (a.drop (i + 1)) m) := by
  rw [List.drop_eq_getElem_cons h, Et.deepL]
theorem ExAt.below {w w' : World} {K : Nat → Prop} {x : Et} {v : Value} (h : ExAt w K x v) (hb : Below w.heap.size w w') (hK : ∀ g, K g → g < w.heap.size) : ExAt w' K x v := ExAt.keep (fun _ h => h) (fun g hg => hb.block g (hK g hg)) x v h
set_option maxHeartbeats 4000000 in
theorem deep17 : ∀ (x : Et) (v : Value) (most : Int) (w : World) (K : Nat → Prop), ExAt w K x v → (∀ g, K g → g < w.heap.size) → most ≤ 1000000 →
    Calls Tryz.prog 169 #[v, .int .i64 most] w fun e w' => e = .returned (.bool (x.deep most)) ∧ Below w.heap.size w w' := by
  refine Et.ind fun o n s a ih v most w K h hK hm => ?_
  simp only [ExAt] at h
  obtain ⟨A, cap, rfl, hs, ⟨hal, hsl⟩, hr⟩ := h
  unfold lenMax at hal
  have hR : (Et.mk o n s a).deep most = if most < 1 then true else Et.deepL a (most - 1) := by rw [Et.deep]
  generalize (Et.mk o n s a).deep most = R at hR
  have HR := Lib.hid hR
  clear hR
  have b0 : Below w.heap.size w (w.alloc (.cells (exC o n s A a.length cap) 47)) := (Below.refl _ _).alloc (Nat.le_refl _) _
  have hw0 : (w.alloc (.cells (exC o n s A a.length cap) 47)).heap[w.heap.size]? = some (.cells (exC o n s A a.length cap) 47 (0, 0)) := heap_alloc_new w _
  have hs0 : (w.alloc (.cells (exC o n s A a.length cap) 47)).heap.size = w.heap.size + 1 := by simp
  dsimp only [exC] at b0 hw0 hs0
  go_enter Tryz.func169, Tryz.ntmps169
  cases u : decide (most < 1)
  rotate_left
  · have := of_decide_eq_true u
    obtain rfl : R = true := by rw [HR.out, if_pos this]
    clear HR
    go_wp2_with (fail)
    exact bodyPost_ret (results_tmp rfl _ _ _) rfl ⟨rfl, b0⟩
  · have hm1 := of_decide_eq_false u
    have hR : R = Et.deepL a (most - 1) := by rw [HR.out, if_neg hm1]
    clear HR
    have HR := Lib.hid hR
    clear hR
    go_wp2_with (fail)
    generalize w.alloc (.cells #[.int .i64 o, .int .i64 n, .string (tx s), .slice A a.length cap] 47) = W0 at b0 hw0 hs0
    go_loopw [5] (fun t wr => ∃ i : Nat, t = .int .i64 i ∧ i ≤ a.length ∧ Hid (R = Et.deepL (a.drop i) (most - 1)) ∧ Below W0.heap.size W0 wr) (fun t _ => a.length - (intOf t).toNat)
    case atStart => exact ⟨0, rfl, by omega, HR, Below.refl _ _⟩
    case round =>
      obtain ⟨i, rfl, hi, he, hb⟩ := hrel
      clear HR
      have c3 := (cell4 ((hb.block w.heap.size (by omega)).trans hw0)).2.2.2
      by_cases hlt : i < a.length
      · obtain ⟨g, off, rfl, hg, hrow⟩ := hr (by rintro rfl; simp at hlt)
        obtain ⟨C, hC, hc⟩ := ExRow.at_ a off i hlt hrow
        obtain ⟨o', n', s', A2, k2, cap2, hC'⟩ := hC.cells
        obtain rfl := Value.agg.inj hC'
        have hbw : Below w.heap.size w wr := b0.trans (hb.mono (by omega))
        have hgl := hK g hg
        have k0 := (hbw.cell (p := ⟨g, off + i * 4 + 0, none⟩) hgl).trans (hc 0 _ rfl)
        have k1 := (hbw.cell (p := ⟨g, off + i * 4 + 1, none⟩) hgl).trans (hc 1 _ rfl)
        have k2' := (hbw.cell (p := ⟨g, off + i * 4 + 2, none⟩) hgl).trans (hc 2 _ rfl)
        have k3 := (hbw.cell (p := ⟨g, off + i * 4 + 3, none⟩) hgl).trans (hc 3 _ rfl)
        rw [Nat.add_zero] at k0
        have hu := ih a[i] (List.getElem_mem hlt) _ (most - 1) wr K (hC.below hbw hK) (fun g hg => Nat.lt_of_lt_of_le (hK g hg) hbw.size) (by omega)
        have he1 := he.out
        rw [deepL_at hlt] at he1
        generalize a[i].deep (most - 1) = q at hu he1
        have HE := Lib.hid he1
        clear he1 he hc hC ih hrow hr
        have u0 : decide ((i : Int) < (a.length : Int)) = true := decide_eq_true (by omega)
        go_wp2_with (fail)
        ((with_reducible refine hu.mono ?_); rintro e w2 ⟨rfl, hb2⟩)
        have hb3 : Below W0.heap.size W0 w2 := hb.trans (hb2.mono hb.size)
        have hi1 : (i : Int) + 1 ≤ 9223372036854775807 := by omega
        cases q
        · go_wp2_with (fail)
          go_roundw
          case rel => exact ⟨i + 1, by go_num, by omega, Lib.hid (by rw [HE.out]; rfl), hb3⟩
          case measure => simp [intOf]; omega
        · go_wp2_with (fail)
          exact bodyPost_ret (results_tmp rfl _ _ _) rfl ⟨by rw [HE.out]; rfl, b0.trans (hb3.mono (by omega))⟩
      · obtain rfl : i = a.length := by omega
        have he1 := he.out
        rw [List.drop_eq_nil_of_le (Nat.le_refl _), Et.deepL] at he1
        subst he1
        clear he ih hr
        have u0 : decide ((a.length : Int) < (a.length : Int)) = false := decide_eq_false (by omega)
        go_wp2_with (fail)
        exact bodyPost_ret (results_tmp rfl _ _ _) rfl ⟨rfl, b0.trans (hb.mono (by omega))⟩
end Go.Proofs.YtpdkpkabdkefcaaGreatDoor
namespace Go.Proofs.YtpdkpkabdkefcaaGreatDoor
open Go.Sx Go.ChangeShapes Go.WideShapes Go.RowKit Go.Joins Go.Deep Go.Rp
theorem all17 (T : List Tok) (hT : T.length ≤ 900000) (hT2 : ∀ t ∈ T, t.t.length ≤ 1000000000000) (b : Nat) (A : Option Addr) (cap : Nat) : ∀ f, UnOk T b A cap f ∧ TmOk T b A cap f := by
  intro f
  induction f using Nat.strongRecOn with
  | _ f ih =>
    match f, ih with
    | 0, _ => exact ⟨fun w n _ _ hf => by omega, fun w n lvl _ _ _ _ hf => by omega⟩
    | f + 1, ih => exact ⟨un17 T hT hT2 b A cap f (ih f (by omega)), tm17 T hT b A cap f fun g hg => ih g (by omega)⟩
theorem results_cell_row3 {P : Program} {fn : Func} {p u v : Tmp} {ty : TypeId} (h : fn.results = #[.cell p ty, .tmp u, .tmp v]) (tmps : Array Value) (w : World) (g : Nat) (t : TypeId) (cs : Array Value) (fr : Nat × Nat) (d : TypeDesc)
    (hp : tmps.getD p undef = .pointer (some ⟨g, 0, none⟩)) (hg : w.heap[g]? = some (.cells cs t fr))
    (hu : P.underlying ty = some d) (hd : (match d with | .struct _ | .array _ _ => true | _ => false) = true) (hi : (P.info? ty).map (·.size) = some cs.size) :
    (results fn tmps).run P w = .ok (.tuple #[.agg cs, tmps.getD u undef, tmps.getD v undef]) w := by
  have hp' : tmps[p]?.getD undef = .pointer (some ⟨g, 0, none⟩) := by simpa using hp
  simp [results, h, hp', asAddr, run_loadVar_row w g t ty cs fr d hg hu hd hi]
def ReadPost (R : Et × Nat × Int) (w : World) (e : Ending) (w' : World) : Prop :=
  ∃ C, e = .returned (.tuple #[.agg C, .int .i64 R.2.1, .int .i64 R.2.2]) ∧ ExAt w' (fun g => w.heap.size ≤ g ∧ g < w'.heap.size) R.1 (.agg C) ∧ Below w.heap.size w w'
theorem ExAt.drew {w : World} {K : Nat → Prop} {x : Et} {v : Value} (h : ExAt w K x v) : ExAt w.drew K x v := ExAt.keep (w := w) (w' := w.drew) (fun _ h => h) (fun _ _ => rfl) x v h
theorem read_put {w W : World} {x : Et} {x0 x1 x2 x3 : Value} (he : ExAt W (fun g => w.heap.size ≤ g ∧ g ≠ w.heap.size ∧ g < W.heap.size) x (.agg #[x0, x1, x2, x3])) (hb : Below w.heap.size w W) :
    ExAt ((((W.setCell ⟨w.heap.size, 0, none⟩ x0).setCell ⟨w.heap.size, 1, none⟩ x1).setCell ⟨w.heap.size, 2, none⟩ x2).setCell ⟨w.heap.size, 3, none⟩ x3) (fun g => w.heap.size ≤ g ∧ g < ((((W.setCell ⟨w.heap.size, 0, none⟩ x0).setCell ⟨w.heap.size, 1, none⟩ x1).setCell ⟨w.heap.size, 2, none⟩ x2).setCell ⟨w.heap.size, 3, none⟩ x3).heap.size) x (.agg #[x0, x1, x2, x3]) ∧
    Below w.heap.size w ((((W.setCell ⟨w.heap.size, 0, none⟩ x0).setCell ⟨w.heap.size, 1, none⟩ x1).setCell ⟨w.heap.size, 2, none⟩ x2).setCell ⟨w.heap.size, 3, none⟩ x3) :=
  ⟨ExAt.keep (fun g hg => by rw [setA_size]; exact ⟨hg.1, hg.2.2⟩) (fun g hg => setA_old W _ _ _ _ _ g hg.2.1) x _ he,
    ((((hb.setCell (Nat.le_refl _) _).setCell (Nat.le_refl _) _).setCell (Nat.le_refl _) _).setCell (Nat.le_refl _) _)⟩
set_option maxHeartbeats 4000000 in
theorem read17 (T : List Tok) (hT : T.length ≤ 900000) (hT2 : ∀ t ∈ T, t.t.length ≤ 1000000000000) (A : Option Addr) (cap : Nat) (n : Nat) (hn : n ≤ T.length) (w : World) (hA : RAt tokE w w.heap.size A T) :
    Calls Tryz.prog 141 #[.slice A T.length cap, .int .i64 n] w (ReadPost (readX T n) w) := by
  have hR : readX T n = match termF T (fuelT T) 1 n with
    | none => (ex0, 0, 3)
    | some p => if p.1.deep 16 then (ex0, 0, 11) else (p.1, p.2, 0) := rfl
  generalize readX T n = R at hR
  have HR := Lib.hid hR
  clear hR
  have b0 : Below w.heap.size w ((w.alloc (.cells (exC 0 0 [] none 0 0) 47)).alloc (.cells #[.slice A T.length cap, .int .i64 n, .bool false] 151)) := ((Below.refl _ _).alloc (Nat.le_refl _) _).alloc (by simp) _
  have hrd : Rd17 ((w.alloc (.cells (exC 0 0 [] none 0 0) 47)).alloc (.cells #[.slice A T.length cap, .int .i64 n, .bool false] 151)) (w.heap.size + 1) A cap T n false := by
    refine ⟨?_, (hA.below b0 (Nat.le_refl _)).more (by omega)⟩
    have := heap_alloc_new (w.alloc (.cells (exC 0 0 [] none 0 0) 47)) (.cells #[.slice A T.length cap, .int .i64 n, .bool false] 151)
    simpa using this
  have hw0 : ((w.alloc (.cells (exC 0 0 [] none 0 0) 47)).alloc (.cells #[.slice A T.length cap, .int .i64 n, .bool false] 151)).heap[w.heap.size]? = some (.cells (exC 0 0 [] none 0 0) 47 (0, 0)) := alloc_blk (heap_alloc_new w _) _
  have hs0 : ((w.alloc (.cells (exC 0 0 [] none 0 0) 47)).alloc (.cells #[.slice A T.length cap, .int .i64 n, .bool false] 151)).heap.size = w.heap.size + 2 := by simp
  have ht := (all17 T hT hT2 (w.heap.size + 1) A cap (fuelT T)).2 _ n 1 hrd hn (by omega) (by omega) (by unfold fuelT; omega)
  dsimp only [exC] at b0 hw0 hs0 ht
  clear hrd
  go_enter Tryz.func141, Tryz.ntmps141
  go_wp2_with (fail)
  ((with_reducible refine ht.mono ?_); rintro e w9 ⟨x, C, j, bad, rfl, hr⟩)
  obtain ⟨o, m, s, A', k, cap', hC⟩ := hr.at_.cells
  obtain rfl := Value.agg.inj hC
  have g2 := (hr.stay.block w.heap.size (by omega) (by omega)).trans hw0
  have s9 := hr.stay.size
  rw [hs0] at s9
  have bA := fun o => hr.rd.below ((Below.refl w9.heap.size w9).alloc (Nat.le_refl _) o)
  have c2 := fun o => (bA o).c2
  have c1 := fun o => (bA o).c1
  obtain ⟨d0, d1, d2, d3, df⟩ := alloc_cell4 g2
  clear ht
  cases bad
  rotate_left
  · have hR : R = (ex0, 0, 3) := by
      rw [HR.out]
      cases hq : termF T (fuelT T) 1 n with
      | none => rfl
      | some p => cases (hr.yes p hq).1
    subst hR
    go_wp2_with (fail)
    refine bodyPost_ret (results_cell_row3 rfl _ _ w.heap.size 47 _ (0, 0) _ rfl (setA _ w.heap.size 47 _ _ _ _ _ _ _ _ (alloc_blk g2 _)) Tryz.underlying47 rfl (by kernel_rfl)) rfl
      ⟨_, rfl, read_put (exAt0 _ _) ((b0.trans (hr.stay.below (by omega) (by omega))).alloc (by omega) _)⟩
  · have hA : Below w9.heap.size w9 (w9.alloc (.cells (exC o m s A' k cap') 47)) := (Below.refl _ _).alloc (Nat.le_refl _) _
    have hsz : (w9.alloc (.cells (exC o m s A' k cap') 47)).heap.size = w9.heap.size + 1 := by simp
    have hnew := heap_alloc_new w9 (.cells (exC o m s A' k cap') 47)
    have hat : ExAt (w9.alloc (.cells (exC o m s A' k cap') 47)) (fun g => w.heap.size + 2 ≤ g ∧ g < w9.heap.size) x (.agg (exC o m s A' k cap')) := ExAt.keep (fun g hg => by rw [hs0] at hg; omega) (fun g hg => hA.block g hg.2) x _ hr.at_
    have hd := deep17 x _ 16 _ _ hat (fun g hg => by rw [hsz]; omega) (by decide)
    have hz : ∃ p, termF T (fuelT T) 1 n = some p ∧ x = p.1 ∧ j = p.2 := by
      cases hq : termF T (fuelT T) 1 n with
      | none => cases hr.no hq
      | some p => exact ⟨p, rfl, (hr.yes p hq).2⟩
    obtain ⟨p, hp, rfl, rfl⟩ := hz
    have hR := HR.out
    rw [hp] at hR
    have HR := Lib.hid (show R = if p.1.deep 16 then (ex0, 0, 11) else (p.1, p.2, 0) from hR)
    clear hR
    have hbw : Below w.heap.size w (w9.alloc (.cells (exC o m s A' k cap') 47)) := (b0.trans (hr.stay.below (by omega) (by omega))).alloc (by omega) _
    have hrd := bA (.cells (exC o m s A' k cap') 47)
    have g3 := alloc_blk g2 (.cells (exC o m s A' k cap') 47)
    dsimp only [exC] at hd hat hbw hrd hnew g3 hsz
    clear hA hC hr bA d0 d1 d2 d3 df c1
    go_wp2_with (fail)
    generalize w9.alloc (.cells #[.int .i64 o, .int .i64 m, .string (tx s), .slice A' k cap'] 47) = W9 at hd hat hbw hrd hnew g3 hsz
    clear c2
    ((with_reducible refine hd.mono ?_); rintro e w10 ⟨rfl, hb10⟩)
    have g4 := (hb10.block w.heap.size (by omega)).trans g3
    have g8 := (hb10.block w9.heap.size (by omega)).trans hnew
    have c1 := (hrd.below hb10).c1
    obtain ⟨d0, d1, d2, d3⟩ := cell4 g4
    obtain ⟨f0, f1, f2, f3⟩ := cell4 g8
    have df := froz g4
    have hbw2 := hbw.trans (hb10.mono hbw.size)
    have hat2 := ExAt.keep (w' := w10) (K' := fun g => w.heap.size ≤ g ∧ g ≠ w.heap.size ∧ g < w10.heap.size) (fun g hg => by have := hb10.size; omega) (fun g hg => hb10.block g (by omega)) _ _ hat
    clear hd
    cases hq : p.1.deep 16
    rotate_left
    · have hR := HR.out
      rw [hq, if_pos rfl] at hR
      subst hR
      go_wp2_with (fail)
      refine bodyPost_ret (results_cell_row3 rfl _ _ w.heap.size 47 _ (0, 0) _ rfl (setA _ w.heap.size 47 _ _ _ _ _ _ _ _ g4) Tryz.underlying47 rfl (by kernel_rfl)) rfl
        ⟨_, rfl, read_put (exAt0 _ _) hbw2⟩
    · have hR := HR.out
      rw [hq, if_neg Bool.false_ne_true] at hR
      subst hR
      go_wp2_with (fail)
      go_region_with (fail)
      all_goals go_wp2_with (fail)
      all_goals refine bodyPost_ret (results_cell_row3 rfl _ _ w.heap.size 47 _ (0, 0) _ rfl (setA _ w.heap.size 47 _ _ _ _ _ _ _ _ g4) Tryz.underlying47 rfl (by kernel_rfl)) rfl ⟨_, rfl, (read_put hat2 hbw2).1.drew, (read_put hat2 hbw2).2.drew⟩
end Go.Proofs.YtpdkpkabdkefcaaGreatDoor
