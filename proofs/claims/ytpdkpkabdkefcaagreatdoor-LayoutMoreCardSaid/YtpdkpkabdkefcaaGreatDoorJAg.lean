/- For the seat: texts joined: RsA, RsB, RsC, RsE, RsF, RsG, RsH, RsI, RsK, RsJ, RsL, RsN, RsO, RsP. -/
import Derived.Test.YtpdkpkabdkefcaaGreatDoorJAe
import Derived.Test.YtpdkpkabdkefcaaGreatDoorJAb
import Derived.Test.YtpdkpkabdkefcaaGreatDoorJAf
import Derived.Deep.RegionHeldLaw
set_option maxRecDepth 100000
namespace Go.Proofs.YtpdkpkabdkefcaaGreatDoor
open Go.Sx Go.ChangeShapes Go.WideShapes Go.RowKit Go.Joins Go.Deep Go.Rp
structure Rd18 (w : World) (b : Nat) (A : Option Addr) (cap : Nat) (T : List Tok) (i : Int) (err : Int) : Prop where
  blk : w.heap[b]? = some (.cells #[.slice A T.length cap, .int .i64 i, .int .i64 err] 117 (0, 0))
  row : RAt tokE w b A T
section
variable {w : World} {b : Nat} {A : Option Addr} {cap : Nat} {T : List Tok} {i : Int} {err : Int}
theorem Rd18.lt (h : Rd18 w b A cap T i err) : b < w.heap.size := (Array.getElem?_eq_some_iff.1 h.blk).1
theorem Rd18.c0 (h : Rd18 w b A cap T i err) : w.cell? ⟨b, 0, none⟩ = some (.slice A T.length cap) := by simp [World.cell?, h.blk]
theorem Rd18.c1 (h : Rd18 w b A cap T i err) : w.cell? ⟨b, 1, none⟩ = some (.int .i64 i) := by simp [World.cell?, h.blk]
theorem Rd18.c2 (h : Rd18 w b A cap T i err) : w.cell? ⟨b, 2, none⟩ = some (.int .i64 err) := by simp [World.cell?, h.blk]
theorem Rd18.fz (h : Rd18 w b A cap T i err) (j : Nat) : w.frozen? ⟨b, j, none⟩ = false := by simp [World.frozen?, h.blk]
theorem Rd18.below {w' : World} (h : Rd18 w b A cap T i err) (hb : Below w.heap.size w w') : Rd18 w' b A cap T i err :=
  ⟨(hb.block b h.lt).trans h.blk, h.row.below hb (Nat.le_of_lt h.lt)⟩
end
set_option maxHeartbeats 4000000 in
theorem t18 {w : World} {b : Nat} {A : Option Addr} {cap : Nat} {T : List Tok} {i : Int} {err : Int} (h : Rd18 w b A cap T i err) :
    Calls Tryz.prog 108 #[.pointer (some ⟨b, 0, none⟩)] w fun e w' => e = .returned (.agg (tokC (tokI T i))) ∧ Below w.heap.size w w' := by
  have hlt := h.lt
  have c0 := h.c0
  have c1 := h.c1
  have hr := h.row
  have b0 : Below w.heap.size w (w.alloc (.cells #[.int .i64 0, .int .i64 0, .string ⟨#[]⟩] 90)) := (Below.refl _ _).alloc (Nat.le_refl _) _
  have d0 := (b0.cell (p := ⟨b, 0, none⟩) hlt).trans c0
  have d1 := (b0.cell (p := ⟨b, 1, none⟩) hlt).trans c1
  have hr1 : RAt tokE _ b A T := hr.below b0 (Nat.le_of_lt hlt)
  clear c0 c1 hr
  cases u1 : decide (i < 0)
  · cases u2 : decide ((T.length : Int) ≤ i)
    · obtain ⟨n, rfl⟩ : ∃ n : Nat, i = n := ⟨i.toNat, by have := of_decide_eq_false u1; omega⟩
      have hn : n < T.length := by have := of_decide_eq_false u2; omega
      obtain ⟨g, off, rfl, hg, hc⟩ := hr1.at_ hn
      have k0 := hc 0 _ rfl
      have k1 := hc 1 _ rfl
      have k2 := hc 2 _ rfl
      have hk : tokI T n = T[n] := by simp [tokI, hn]; omega
      simp only [tokE, Nat.add_zero] at k0 k1 k2
      generalize T[n] = y at k0 k1 k2 hk
      rw [hk]
      clear hr1 hc hk
      go_enter Tryz.func108, Tryz.ntmps108
      go_wp2_with fail
      go_quiet (fail)
      go_wp2_with fail
      go_region_with (fail)
      all_goals go_wp2_with fail
      all_goals refine bodyPost_ret (results_cell_row rfl _ _ w.heap.size 90 _ (0, 0) _ rfl (set3 w 90 _ _ _ _ _ _ _) Tryz.underlying90 rfl (by kernel_rfl)) rfl ⟨?_, (((below_drewN b0).setCell (Nat.le_refl _) _).setCell (Nat.le_refl _) _).setCell (Nat.le_refl _) _⟩
      all_goals rfl
    · have hk : tokI T i = tok0 := by
        have h1 := of_decide_eq_false u1
        have h2 := of_decide_eq_true u2
        simp [tokI, show ¬ i < 0 by omega, List.getD, show T.length ≤ i.toNat by omega]
      rw [hk]
      go_enter Tryz.func108, Tryz.ntmps108
      go_wp2_with fail
      go_quiet (fail)
      go_wp2_with fail
      refine bodyPost_ret (results_cell_row rfl _ _ w.heap.size 90 _ (0, 0) _ rfl (set3 w 90 _ _ _ _ _ _ _) Tryz.underlying90 rfl (by kernel_rfl)) rfl ⟨?_, (((below_drewN b0).setCell (Nat.le_refl _) _).setCell (Nat.le_refl _) _).setCell (Nat.le_refl _) _⟩
      rfl
  · have hk : tokI T i = tok0 := by
      have h1 := of_decide_eq_true u1
      simp [tokI, h1]
    rw [hk]
    go_enter Tryz.func108, Tryz.ntmps108
    go_wp2_with fail
    go_quiet (fail)
    go_wp2_with fail
    refine bodyPost_ret (results_cell_row rfl _ _ w.heap.size 90 _ (0, 0) _ rfl (set3 w 90 _ _ _ _ _ _ _) Tryz.underlying90 rfl (by kernel_rfl)) rfl ⟨?_, (((below_drewN b0).setCell (Nat.le_refl _) _).setCell (Nat.le_refl _) _).setCell (Nat.le_refl _) _⟩
    rfl
theorem Rd18.set1 {w : World} {b : Nat} {A : Option Addr} {cap : Nat} {T : List Tok} {i : Int} {err : Int} (h : Rd18 w b A cap T i err) (j : Int) : Rd18 (w.setCell ⟨b, 1, none⟩ (.int .i64 j)) b A cap T j err := ⟨setCell_at h.blk _, h.row.setCell _⟩
theorem Rd18.set2 {w : World} {b : Nat} {A : Option Addr} {cap : Nat} {T : List Tok} {i : Int} {err : Int} (h : Rd18 w b A cap T i err) (c : Int) : Rd18 (w.setCell ⟨b, 2, none⟩ (.int .i64 c)) b A cap T i c := ⟨setCell_at h.blk _, h.row.setCell _⟩
abbrev RdS (w : World) (b : Nat) (A : Option Addr) (cap : Nat) (T : List Tok) (σ : Rs) : Prop := Rd18 w b A cap T (σ.i : Int) σ.e
theorem tt18 {w : World} {b : Nat} {A : Option Addr} {cap : Nat} {T : List Tok} {σ : Rs} (h : RdS w b A cap T σ) :
    Calls Tryz.prog 108 #[.pointer (some ⟨b, 0, none⟩)] w fun e w' => e = .returned (.agg (tokC (tokA T σ.i))) ∧ Below w.heap.size w w' := by
  have := t18 h
  rw [tokI_nat] at this
  exact this
theorem bad18 {w : World} {b : Nat} {A : Option Addr} {cap : Nat} {T : List Tok} {σ : Rs} (hr : RdS w b A cap T σ) (c : Int) :
    Calls Tryz.prog 113 #[.pointer (some ⟨b, 0, none⟩), .int .i64 c] w fun e w' => e = .returned (.tuple #[]) ∧ RdS w' b A cap T (badS σ c) ∧ Stay b w w' := by
  have c2 := hr.c2
  have f2 := hr.fz 2
  obtain ⟨i, er⟩ := σ
  dsimp only at c2 hr
  cases e0 : (er == 0)
  · have hb : badS ⟨i, er⟩ c = ⟨i, er⟩ := by unfold badS; rw [if_neg (ne_of_beq_false e0)]
    rw [hb]
    clear hb
    go_enter Tryz.func113, Tryz.ntmps113
    go_wp2_with (fail)
    exact bodyPost_end (results_none rfl _ _ _) rfl ⟨rfl, hr, Stay.refl _ _⟩
  · have hb : badS ⟨i, er⟩ c = ⟨i, c⟩ := by unfold badS; rw [if_pos (eq_of_beq e0)]
    rw [hb]
    clear hb
    go_enter Tryz.func113, Tryz.ntmps113
    go_wp2_with (fail)
    exact bodyPost_end (results_none rfl _ _ _) rfl ⟨rfl, hr.set2 c, Stay.set _ _ _⟩
theorem field_tok (w : World) (k n : Int) (s : ByteArray) :
    (Instr.field 90 (.agg #[.int .i64 k, .int .i64 n, .string s]) 0).run Tryz.prog w = .ok (.int .i64 k) w ∧ (Instr.field 90 (.agg #[.int .i64 k, .int .i64 n, .string s]) 2).run Tryz.prog w = .ok (.string s) w := ⟨by kernel_rfl, by kernel_rfl⟩
theorem is18 {w : World} {b : Nat} {A : Option Addr} {cap : Nat} {T : List Tok} {σ : Rs} (h : RdS w b A cap T σ) (s : Bs) :
    Calls Tryz.prog 172 #[.pointer (some ⟨b, 0, none⟩), .string (tx s)] w fun e w' => e = .returned (.bool (isS (tokA T σ.i) s)) ∧ Below w.heap.size w w' := by
  have ht : ∀ w', Below w.heap.size w w' → Calls Tryz.prog 108 #[.pointer (some ⟨b, 0, none⟩)] w' fun e w'' => e = .returned (.agg #[.int .i64 (tokA T σ.i).k, .int .i64 (tokA T σ.i).n, .string (tx (tokA T σ.i).t)]) ∧ Below w'.heap.size w' w'' := fun w' hb => tt18 (h.below hb)
  generalize tokA T σ.i = y at ht ⊢
  have hS : isS y s = ((y.k == 3) && (y.t == s)) := rfl
  rw [hS]
  clear hS h
  have h0 := ht w (Below.refl _ _)
  have f0 := fun w => (field_tok w y.k y.n (tx y.t)).1
  have f2 := fun w => (field_tok w y.k y.n (tx y.t)).2
  cases e3 : (y.k == 3)
  · go_enter Tryz.func172, Tryz.ntmps172
    go_wp2_with (fail)
    ((with_reducible refine h0.mono ?_); rintro e w1 ⟨rfl, hb1⟩)
    go_wp2_with (fail)
    exact bodyPost_ret (results_tmp rfl _ _ _) rfl ⟨rfl, hb1⟩
  · go_enter Tryz.func172, Tryz.ntmps172
    go_wp2_with (fail)
    ((with_reducible refine h0.mono ?_); rintro e w1 ⟨rfl, hb1⟩)
    go_wp2_with (fail)
    ((with_reducible refine (ht w1 hb1).mono ?_); rintro e w2 ⟨rfl, hb2⟩)
    go_wp2_with (fail)
    refine bodyPost_ret (results_tmp rfl _ _ _) rfl ⟨?_, hb1.trans (hb2.mono hb1.size)⟩
    simp
end Go.Proofs.YtpdkpkabdkefcaaGreatDoor
namespace Go.Proofs.YtpdkpkabdkefcaaGreatDoor
open Go.Sx Go.ChangeShapes Go.WideShapes Go.RowKit Go.Joins Go.Deep Go.Rp
section
variable {w : World} {b : Nat} {A : Option Addr} {cap : Nat} {T : List Tok} {σ : Rs}
theorem RdS.below {w' : World} (h : RdS w b A cap T σ) (hb : Below w.heap.size w w') : RdS w' b A cap T σ := Rd18.below h hb
theorem RdS.step {w : World} {i : Nat} {e : Int} (h : Rd18 w b A cap T (i : Int) e) : RdS (w.setCell ⟨b, 1, none⟩ (.int .i64 ((i : Int) + 1))) b A cap T ⟨i + 1, e⟩ := h.set1 _
theorem take18 (hr : RdS w b A cap T σ) (hi : σ.i ≤ 1000000) (s : Bs) :
    Calls Tryz.prog 171 #[.pointer (some ⟨b, 0, none⟩), .string (tx s)] w fun e w' => e = .returned (.bool (takeB T σ s)) ∧ RdS w' b A cap T (takeT T σ s) ∧ Stay b w w' := by
  have hs := is18 hr s
  have c2 := hr.c2
  have hR : ∀ w', Below w.heap.size w w' → RdS w' b A cap T σ := fun w' hb => hr.below hb
  have e1 : takeB T σ s = ((σ.e == 0) && isS (tokA T σ.i) s) := rfl
  have e2 : takeT T σ s = if takeB T σ s then ⟨σ.i + 1, σ.e⟩ else σ := rfl
  generalize takeB T σ s = q at e1 e2 ⊢
  generalize takeT T σ s = τ at e2 ⊢
  generalize isS (tokA T σ.i) s = t at hs e1
  obtain ⟨i, er⟩ := σ
  dsimp only at c2 hi e1 e2 hR
  have E1 := Lib.hid e1
  have E2 := Lib.hid e2
  clear e1 e2
  cases e0 : (er == 0)
  · obtain rfl : q = false := by rw [E1.out, e0]; rfl
    obtain rfl : τ = ⟨i, er⟩ := E2.out
    clear E1 E2 hs
    have e0' : (er != 0) = true := by simpa using e0
    go_enter Tryz.func171, Tryz.ntmps171
    go_wp2_with (fail)
    exact bodyPost_ret (results_tmp rfl _ _ _) rfl ⟨rfl, hr, Stay.refl _ _⟩
  have e0' : (er != 0) = false := by simpa using e0
  go_enter Tryz.func171, Tryz.ntmps171
  go_wp2_with (fail)
  ((with_reducible refine hs.mono ?_); rintro e w1 ⟨rfl, hb1⟩)
  have h1 : Rd18 w1 b A cap T (i : Int) er := hR w1 hb1
  clear hR hs c2
  cases t
  · obtain rfl : q = false := by rw [E1.out, e0]; rfl
    obtain rfl : τ = ⟨i, er⟩ := E2.out
    clear E1 E2
    go_wp2_with (fail)
    exact bodyPost_ret (results_tmp rfl _ _ _) rfl ⟨rfl, h1, Stay.of_below hb1⟩
  · obtain rfl : q = true := by rw [E1.out, e0]; rfl
    obtain rfl : τ = ⟨i + 1, er⟩ := E2.out
    clear E1 E2
    have c1 := h1.c1
    have f1 := h1.fz 1
    go_wp2_with (fail)
    exact bodyPost_ret (results_tmp rfl _ _ _) rfl ⟨rfl, RdS.step h1, (Stay.of_below hb1).trans (Stay.set _ _ _)⟩
theorem must18 (hr : RdS w b A cap T σ) (hi : σ.i ≤ 1000000) (s : Bs) :
    Calls Tryz.prog 147 #[.pointer (some ⟨b, 0, none⟩), .string (tx s)] w fun e w' => e = .returned (.tuple #[]) ∧ RdS w' b A cap T (mustT T σ s) ∧ Stay b w w' := by
  have ht := take18 hr hi s
  have e2 : takeT T σ s = if takeB T σ s then ⟨σ.i + 1, σ.e⟩ else σ := rfl
  have e3 : mustT T σ s = if takeB T σ s then ⟨σ.i + 1, σ.e⟩ else badS σ 3 := rfl
  generalize takeB T σ s = q at ht e2 e3
  generalize takeT T σ s = τ at ht e2
  generalize mustT T σ s = υ at e3 ⊢
  cases q
  · obtain rfl : τ = σ := e2
    obtain rfl : υ = badS τ 3 := e3
    go_enter Tryz.func147, Tryz.ntmps147
    go_wp2_with (fail)
    ((with_reducible refine ht.mono ?_); rintro e w1 ⟨rfl, h1, st1⟩)
    have hb := bad18 h1 3
    go_wp2_with (fail)
    ((with_reducible refine hb.mono ?_); rintro e w2 ⟨rfl, h2, st2⟩)
    go_wp2_with (fail)
    exact bodyPost_end (results_none rfl _ _ _) rfl ⟨rfl, h2, st1.trans st2⟩
  · obtain rfl : τ = υ := e2.trans e3.symm
    clear e2 e3
    go_enter Tryz.func147, Tryz.ntmps147
    go_wp2_with (fail)
    ((with_reducible refine ht.mono ?_); rintro e w1 ⟨rfl, h1, st1⟩)
    go_wp2_with (fail)
    exact bodyPost_end (results_none rfl _ _ _) rfl ⟨rfl, h1, st1⟩
theorem reg18 (hr : RdS w b A cap T σ) (hi : σ.i ≤ 1000000) :
    Calls Tryz.prog 146 #[.pointer (some ⟨b, 0, none⟩)] w fun e w' => e = .returned (.int .i64 (regV T σ)) ∧ RdS w' b A cap T (regT T σ) ∧ Stay b w w' := by
  have ht : ∀ w', Below w.heap.size w w' → Calls Tryz.prog 108 #[.pointer (some ⟨b, 0, none⟩)] w' fun e w'' => e = .returned (.agg #[.int .i64 (tokA T σ.i).k, .int .i64 (tokA T σ.i).n, .string (tx (tokA T σ.i).t)]) ∧ Below w'.heap.size w' w'' := fun w' hb => tt18 (hr.below hb)
  have hR : ∀ w', Below w.heap.size w w' → RdS w' b A cap T σ := fun w' hb => hr.below hb
  have e1 : regR T σ = if (tokA T σ.i).k = 1 then regFind (tokA T σ.i).t else -1 := rfl
  have e2 : regV T σ = if regR T σ < 0 then 0 else regR T σ := rfl
  have e3 : regT T σ = if regR T σ < 0 then badS σ 3 else ⟨σ.i + 1, σ.e⟩ := rfl
  generalize regV T σ = v at e2 ⊢
  generalize regT T σ = τ at e3 ⊢
  generalize regR T σ = r at e1 e2 e3
  have hf := find05 (tokA T σ.i).t
  generalize tokA T σ.i = y at ht e1 hf
  have f0 := fun w => (field_tok w y.k y.n (tx y.t)).1
  have f2 := fun w => (field_tok w y.k y.n (tx y.t)).2
  generalize regFind y.t = z at hf e1
  have E2 := Lib.hid e2
  have E3 := Lib.hid e3
  clear e2 e3 hr
  have h0 := ht w (Below.refl _ _)
  have key : ∀ w1, Below w.heap.size w w1 → r < 0 → v = 0 ∧ τ = badS σ 3 := fun _ _ h => ⟨by rw [E2.out, if_pos h], by rw [E3.out, if_pos h]⟩
  cases e0 : (y.k == 1)
  · obtain rfl : r = -1 := by rw [e1, if_neg (ne_of_beq_false e0)]
    obtain ⟨rfl, rfl⟩ := key w (Below.refl _ _) (by decide)
    clear e1 E2 E3 key hf
    go_enter Tryz.func146, Tryz.ntmps146
    go_wp2_with (fail)
    ((with_reducible refine h0.mono ?_); rintro e w1 ⟨rfl, hb1⟩)
    have hb := bad18 (hR w1 hb1) 3
    clear h0 ht hR
    go_wp2_with (fail)
    ((with_reducible refine hb.mono ?_); rintro e w2 ⟨rfl, h2, st2⟩)
    go_wp2_with (fail)
    exact bodyPost_ret (results_tmp rfl _ _ _) rfl ⟨rfl, h2, (Stay.of_below hb1).trans st2⟩
  obtain rfl : r = z := by rw [e1, if_pos (eq_of_beq e0)]
  clear e1
  go_enter Tryz.func146, Tryz.ntmps146
  go_wp2_with (fail)
  ((with_reducible refine h0.mono ?_); rintro e w1 ⟨rfl, hb1⟩)
  have h1 := ht w1 hb1
  clear h0 ht
  go_wp2_with (fail)
  ((with_reducible refine h1.mono ?_); rintro e w2 ⟨rfl, hb2'⟩)
  have hb2 := hb1.trans (hb2'.mono hb1.size)
  clear h1
  go_wp2_with (fail)
  ((with_reducible refine (hf _).mono ?_); rintro e w3 ⟨rfl, hb3'⟩)
  have hb3 := hb2.trans (hb3'.mono hb2.size)
  have h3 := hR w3 hb3
  clear hf hR
  cases u : decide (r < 0)
  · have hn := of_decide_eq_false u
    obtain rfl : v = r := by rw [E2.out, if_neg hn]
    obtain rfl : τ = ⟨σ.i + 1, σ.e⟩ := by rw [E3.out, if_neg hn]
    clear E2 E3 key
    obtain ⟨i, er⟩ := σ
    dsimp only at h3 hi ⊢
    have c1 := h3.c1
    have f1 := h3.fz 1
    go_wp2_with (fail)
    exact bodyPost_ret (results_tmp rfl _ _ _) rfl ⟨rfl, RdS.step h3, (Stay.of_below hb3).trans (Stay.set _ _ _)⟩
  · obtain ⟨rfl, rfl⟩ := key w3 hb3 (of_decide_eq_true u)
    clear E2 E3 key
    have hb := bad18 h3 3
    go_wp2_with (fail)
    ((with_reducible refine hb.mono ?_); rintro e w4 ⟨rfl, h4, st4⟩)
    go_wp2_with (fail)
    exact bodyPost_ret (results_tmp rfl _ _ _) rfl ⟨rfl, h4, (Stay.of_below hb3).trans st4⟩
end
end Go.Proofs.YtpdkpkabdkefcaaGreatDoor
namespace Go.Proofs.YtpdkpkabdkefcaaGreatDoor
open Go.Sx Go.ChangeShapes Go.WideShapes Go.RowKit Go.Joins Go.Deep Go.Rp
section
variable {w : World} {b : Nat} {A : Option Addr} {cap : Nat} {T : List Tok} {σ : Rs}
theorem Rd18.allocC1 {i : Int} {er : Int} (h : Rd18 w b A cap T i er) (o : Obj) : (w.alloc o).cell? ⟨b, 1, none⟩ = some (.int .i64 i) :=
  (((Below.refl w.heap.size w).alloc (Nat.le_refl _) o).cell (p := ⟨b, 1, none⟩) h.lt).trans h.c1
theorem Rd18.allocF {i : Int} {er : Int} (h : Rd18 w b A cap T i er) (o : Obj) (j : Nat) : (w.alloc o).frozen? ⟨b, j, none⟩ = false :=
  (h.below ((Below.refl w.heap.size w).alloc (Nat.le_refl _) o)).fz j
theorem new_set_cell0 {w : World} {b k : Nat} (hb : b < w.heap.size) (cs : Array Value) (t : TypeId) (v : Value) (j : Nat) : ((w.alloc (.cells cs t)).setCell ⟨b, k, none⟩ v).cell? ⟨w.heap.size, j, none⟩ = cs[j]? := new_set_cell hb cs t v j
set_option maxHeartbeats 4000000 in
theorem name18 (hr : RdS w b A cap T σ) (hi : σ.i ≤ 1000000) (hT2 : ∀ t ∈ T, t.t.length ≤ 1000000000000) :
    Calls Tryz.prog 107 #[.pointer (some ⟨b, 0, none⟩)] w fun e w' => e = .returned (.string (tx (nameV T σ))) ∧ RdS w' b A cap T (nameT T σ) ∧ Stay b w w' := by
  have ht := tt18 hr
  have hR : ∀ w', Below w.heap.size w w' → RdS w' b A cap T σ := fun w' hb => hr.below hb
  have e1 : nameB T σ = (((tokA T σ.i).k == 1) && isNm (tokA T σ.i).t) := rfl
  have e2 : nameV T σ = if nameB T σ then (tokA T σ.i).t else [] := rfl
  have e3 : nameT T σ = if nameB T σ then ⟨σ.i + 1, σ.e⟩ else badS σ 3 := rfl
  have hnm : (tokA T σ.i).t.length ≤ 1000000000000 := by
    unfold tokA
    rw [List.getD_eq_getElem?_getD]
    cases hq : T[σ.i]? with
    | none => decide
    | some y => exact hT2 y (List.mem_of_getElem? hq)
  generalize nameV T σ = v at e2 ⊢
  generalize nameT T σ = τ at e3 ⊢
  generalize nameB T σ = r at e1 e2 e3
  generalize tokA T σ.i = y at ht e1 e2 hnm
  have hf := name16 y.t hnm
  have E1 := Lib.hid e1
  have E2 := Lib.hid e2
  have E3 := Lib.hid e3
  clear e1 e2 e3 hr
  have key : r = false → v = [] ∧ τ = badS σ 3 := fun h => ⟨by rw [E2.out, h]; rfl, by rw [E3.out, h]; rfl⟩
  have key2 : r = true → v = y.t ∧ τ = ⟨σ.i + 1, σ.e⟩ := fun h => ⟨by rw [E2.out, h]; rfl, by rw [E3.out, h]; rfl⟩
  cases e0 : (y.k == 1)
  · obtain ⟨rfl, rfl⟩ := key (by rw [E1.out, e0]; rfl)
    have e0' : (y.k != 1) = true := by simpa using e0
    clear E1 E2 E3 key key2 hf
    go_enter Tryz.func107, Tryz.ntmps107
    go_wp2_with (fail)
    ((with_reducible refine ht.mono ?_); rintro e w1 ⟨rfl, hb1⟩)
    have hb := bad18 (hR _ (hb1.alloc hb1.size (.cells (tokC y) 90))) 3
    dsimp only [tokC] at hb
    clear ht hR
    go_wp2_with (fail)
    ((with_reducible refine hb.mono ?_); rintro e w2 ⟨rfl, h2, st2⟩)
    go_wp2_with (fail)
    exact bodyPost_ret (results_tmp rfl _ _ _) rfl ⟨rfl, h2, (Stay.of_below (hb1.alloc hb1.size _)).trans st2⟩
  have e0' : (y.k != 1) = false := by simpa using e0
  go_enter Tryz.func107, Tryz.ntmps107
  go_wp2_with (fail)
  ((with_reducible refine ht.mono ?_); rintro e w1 ⟨rfl, hb1⟩)
  go_wp2_with (fail)
  ((with_reducible refine (hf _).mono ?_); rintro e w2 ⟨rfl, rfl⟩)
  have h1 : RdS w1 b A cap T σ := hR w1 hb1
  have hA : ∀ o, RdS (w1.alloc o) b A cap T σ := fun o => hR _ (hb1.alloc hb1.size o)
  clear hf hR ht
  cases q : isNm y.t
  · obtain ⟨rfl, rfl⟩ := key (by rw [E1.out, e0, q]; rfl)
    have hb := bad18 (hA (.cells #[.int .i64 1, .int .i64 y.n, .string (tx y.t)] 90)) 3
    have hb' := bad18 (hA (.cells #[.int .i64 y.k, .int .i64 y.n, .string (tx y.t)] 90)) 3
    clear E1 E2 E3 key key2
    go_wp2_with (fail)
    first
      | ((with_reducible refine hb.mono ?_); rintro e w2 ⟨rfl, h2, st2⟩)
      | ((with_reducible refine hb'.mono ?_); rintro e w2 ⟨rfl, h2, st2⟩)
    go_wp2_with (fail)
    exact bodyPost_ret (results_tmp rfl _ _ _) rfl ⟨rfl, h2, (Stay.of_below (hb1.alloc hb1.size _)).trans st2⟩
  · obtain ⟨rfl, rfl⟩ := key2 (by rw [E1.out, e0, q]; rfl)
    clear E1 E2 E3 key key2
    obtain ⟨i, er⟩ := σ
    dsimp only at hA hi h1 ⊢
    have c1 := h1.allocC1
    have f1 := h1.allocF
    have nsc := new_set_cell0 (k := 1) h1.lt
    go_wp2_with (fail)
    exact bodyPost_ret (results_tmp rfl _ _ _) rfl ⟨rfl, RdS.step (hA _), (Stay.of_below (hb1.alloc hb1.size _)).trans (Stay.set _ _ _)⟩
end
end Go.Proofs.YtpdkpkabdkefcaaGreatDoor
namespace Go.Proofs.YtpdkpkabdkefcaaGreatDoor
open Go.Sx Go.ChangeShapes Go.WideShapes Go.RowKit Go.Joins Go.Deep Go.Rp
section
variable {w : World} {b : Nat} {A : Option Addr} {cap : Nat} {T : List Tok} {σ : Rs}
theorem Rd18.of {w w' : World} {i er : Int} (h : Rd18 w b A cap T i er) (hk : ∀ q, q ≤ b → w'.heap[q]? = w.heap[q]?) : Rd18 w' b A cap T i er :=
  ⟨(hk b (Nat.le_refl _)).trans h.blk, h.row.keep fun p hp _ hu => (World.cell?_of_block (hk p.block (Nat.le_of_lt hp))).trans hu⟩
theorem term_put {w W : World} {x : Et} {x0 x1 x2 x3 : Value} {τ : Rs} (hb : b < w.heap.size) (he : ExAt W (fun g => w.heap.size ≤ g ∧ g ≠ w.heap.size ∧ g < W.heap.size) x (.agg #[x0, x1, x2, x3])) (hr : RdS W b A cap T τ) (hs : Stay b w W) :
    ExAt ((((W.setCell ⟨w.heap.size, 0, none⟩ x0).setCell ⟨w.heap.size, 1, none⟩ x1).setCell ⟨w.heap.size, 2, none⟩ x2).setCell ⟨w.heap.size, 3, none⟩ x3) (fun g => w.heap.size ≤ g ∧ g < ((((W.setCell ⟨w.heap.size, 0, none⟩ x0).setCell ⟨w.heap.size, 1, none⟩ x1).setCell ⟨w.heap.size, 2, none⟩ x2).setCell ⟨w.heap.size, 3, none⟩ x3).heap.size) x (.agg #[x0, x1, x2, x3]) ∧
    RdS ((((W.setCell ⟨w.heap.size, 0, none⟩ x0).setCell ⟨w.heap.size, 1, none⟩ x1).setCell ⟨w.heap.size, 2, none⟩ x2).setCell ⟨w.heap.size, 3, none⟩ x3) b A cap T τ ∧
    Stay b w ((((W.setCell ⟨w.heap.size, 0, none⟩ x0).setCell ⟨w.heap.size, 1, none⟩ x1).setCell ⟨w.heap.size, 2, none⟩ x2).setCell ⟨w.heap.size, 3, none⟩ x3) := by
  refine ⟨ExAt.keep (fun g hg => by rw [setA_size]; exact ⟨hg.1, hg.2.2⟩) (fun g hg => setA_old W _ _ _ _ _ g hg.2.1) x _ he, Rd18.of hr fun q hq => setA_old W _ _ _ _ _ q (by omega), ⟨hs.os, hs.tape, hs.output, ?_, fun k hk hn => ?_⟩⟩
  · rw [setA_size]; exact hs.size
  · rw [setA_old W _ _ _ _ _ k (by omega)]; exact hs.block k hk hn
theorem readX_bad (T : List Tok) (i : Nat) (h : (readX T i).2.2 ≠ 0) : (readX T i).1 = ex0 := by
  unfold readX at h ⊢
  split
  · rfl
  · split
    · rfl
    · simp [*] at h
structure TermMid (w W : World) (b : Nat) (A : Option Addr) (cap : Nat) (T : List Tok) (σ : Rs) (g3 : Nat) (x : Et) (x0 x1 x2 x3 : Value) : Prop where
  ne : g3 ≠ w.heap.size
  nb : g3 ≠ b
  at3 : W.heap[g3]? = some (.cells #[x0, x1, x2, x3] 47 (0, 0))
  res : W.heap[w.heap.size]? = some (.cells #[.int .i64 0, .int .i64 0, .string (tx []), .slice none 0 0] 47 (0, 0))
  rd : RdS W b A cap T σ
  stay : Stay b w W
  val : ExAt W (fun g => w.heap.size ≤ g ∧ g ≠ w.heap.size ∧ g < W.heap.size) x (.agg #[x0, x1, x2, x3])
def TermPost18 (T : List Tok) (b : Nat) (A : Option Addr) (cap : Nat) (σ : Rs) (w : World) (e : Ending) (w' : World) : Prop :=
  ∃ C, e = .returned (.agg C) ∧ ExAt w' (fun g => w.heap.size ≤ g ∧ g < w'.heap.size) (termV T σ) (.agg C) ∧ RdS w' b A cap T (termT T σ) ∧ Stay b w w'
theorem termMidA {w W0 w1 : World} {b : Nat} {A : Option Addr} {cap : Nat} {T : List Tok} {σ : Rs} {x : Et} {x0 x1 x2 x3 : Value} (hlt : b < w.heap.size) (b0 : Below w.heap.size w W0)
    (hw0 : W0.heap[w.heap.size]? = some (.cells #[.int .i64 0, .int .i64 0, .string (tx []), .slice none 0 0] 47 (0, 0))) (hs0 : W0.heap.size = w.heap.size + 1) (h0 : RdS W0 b A cap T σ)
    (hat : ExAt w1 (fun g => W0.heap.size ≤ g ∧ g < w1.heap.size) x (.agg #[x0, x1, x2, x3])) (B1 : Below W0.heap.size W0 w1) :
    TermMid w (w1.alloc (.cells #[x0, x1, x2, x3] 47)) b A cap T σ w1.heap.size x x0 x1 x2 x3 := by
  have hz := B1.size
  have hB := B1.alloc B1.size (.cells #[x0, x1, x2, x3] 47)
  exact ⟨by omega, by omega, heap_alloc_new w1 _, (hB.block w.heap.size (by omega)).trans hw0, h0.below hB, Stay.of_below (b0.trans (hB.mono (by omega))),
    ExAt.keep (fun g hg => ⟨by omega, by omega, by simp; omega⟩) (fun g hg => Below.heap_alloc _ _ _ hg.2) x _ hat⟩
theorem termMidB {w W0 w1 : World} {b : Nat} {A : Option Addr} {cap : Nat} {T : List Tok} {σ : Rs} {x : Et} {x0 x1 x2 x3 y0 y1 y2 y3 : Value} (hlt : b < w.heap.size) (b0 : Below w.heap.size w W0)
    (hw0 : W0.heap[w.heap.size]? = some (.cells #[.int .i64 0, .int .i64 0, .string (tx []), .slice none 0 0] 47 (0, 0))) (hs0 : W0.heap.size = w.heap.size + 1) (h0 : RdS W0 b A cap T σ)
    (g3 : w1.heap[w.heap.size + 1]? = some (.cells #[y0, y1, y2, y3] 47 (0, 0)))
    (hat : ExAt w1 (fun g => w.heap.size + 2 ≤ g ∧ g < w1.heap.size) x (.agg #[x0, x1, x2, x3])) (B1 : Below W0.heap.size W0 w1) :
    TermMid w ((((w1.setCell ⟨w.heap.size + 1, 0, none⟩ x0).setCell ⟨w.heap.size + 1, 1, none⟩ x1).setCell ⟨w.heap.size + 1, 2, none⟩ x2).setCell ⟨w.heap.size + 1, 3, none⟩ x3) b A cap T σ (w.heap.size + 1) x x0 x1 x2 x3 := by
  have hz := B1.size
  have h1 := h0.below B1
  have hst : Stay b w w1 := Stay.of_below (b0.trans (B1.mono (by omega)))
  refine ⟨by omega, by omega, setA _ _ _ _ _ _ _ _ _ _ _ g3, ?_, Rd18.of h1 fun q hq => setA_old _ _ _ _ _ _ q (by omega), ⟨hst.os, hst.tape, hst.output, ?_, fun k hk hn => ?_⟩, ?_⟩
  · rw [setA_old _ _ _ _ _ _ _ (by omega)]; exact (B1.block w.heap.size (by omega)).trans hw0
  · rw [setA_size]; exact hst.size
  · rw [setA_old _ _ _ _ _ _ _ (by omega)]; exact hst.block k hk hn
  · exact ExAt.keep (fun g hg => by rw [setA_size]; exact ⟨by omega, by omega, hg.2⟩) (fun g hg => setA_old _ _ _ _ _ _ _ (by omega)) x _ hat
set_option maxHeartbeats 8000000 in
theorem term18 (hr : RdS w b A cap T σ) (hi : σ.In T) (hT : T.length ≤ 900000) (hT2 : ∀ t ∈ T, t.t.length ≤ 1000000000000) :
    Calls Tryz.prog 106 #[.pointer (some ⟨b, 0, none⟩)] w (TermPost18 T b A cap σ w) := by
  have b0 : Below w.heap.size w (w.alloc (.cells (exC 0 0 [] none 0 0) 47)) := (Below.refl _ _).alloc (Nat.le_refl _) _
  have hw0 : (w.alloc (.cells (exC 0 0 [] none 0 0) 47)).heap[w.heap.size]? = some (.cells (exC 0 0 [] none 0 0) 47 (0, 0)) := heap_alloc_new w _
  have hs0 : (w.alloc (.cells (exC 0 0 [] none 0 0) 47)).heap.size = w.heap.size + 1 := by simp
  have hlt := hr.lt
  have h0 := hr.below b0
  obtain ⟨d0, d1, d2, d3⟩ := cell4 hw0
  have df := froz hw0
  obtain ⟨i, er⟩ := σ
  dsimp only [exC] at b0 hw0 hs0 h0 d0 d1 d2 d3 df
  cases e0 : (er == 0)
  · have hv : termV T ⟨i, er⟩ = ex0 := by unfold termV; rw [if_neg (ne_of_beq_false e0)]
    have ht : termT T ⟨i, er⟩ = ⟨i, er⟩ := by unfold termT; rw [if_neg (ne_of_beq_false e0)]
    unfold TermPost18
    rw [hv, ht]
    have c2 := h0.c2
    have e0' : (er != 0) = true := by simpa using e0
    have hS : Stay b w (w.alloc (.cells #[.int .i64 0, .int .i64 0, .string (tx []), .slice none 0 0] 47)) := Stay.of_below b0
    go_enter Tryz.func106, Tryz.ntmps106
    go_wp2_with (fail)
    exact bodyPost_ret (results_cell_row rfl _ _ w.heap.size 47 _ (0, 0) _ rfl (heap_alloc_new w _) Tryz.underlying47 rfl (by kernel_rfl)) rfl ⟨_, rfl, exAt0 _ _, h0, hS⟩
  · have e0' : (er != 0) = false := by simpa using e0
    have her : er = 0 := eq_of_beq e0
    have hv : termV T ⟨i, er⟩ = (readX T i).1 := by unfold termV; rw [if_pos her]
    have ht : termT T ⟨i, er⟩ = if (readX T i).2.2 = 0 then ⟨(readX T i).2.1, er⟩ else ⟨i, (readX T i).2.2⟩ := by unfold termT; rw [if_pos her]
    unfold TermPost18
    rw [hv, ht]
    have hbs : ∀ c, badS ⟨i, er⟩ c = ⟨i, c⟩ := fun c => by unfold badS; rw [if_pos her]
    have hx0 := readX_bad T i
    clear hv ht her
    have hrow : RAt tokE (w.alloc (.cells #[.int .i64 0, .int .i64 0, .string (tx []), .slice none 0 0] 47)) (w.heap.size + 1) A T := h0.row.more (by omega)
    generalize hW : w.alloc (.cells #[.int .i64 0, .int .i64 0, .string (tx []), .slice none 0 0] 47) = W0 at b0 hw0 hs0 h0 d0 d1 d2 d3 df hrow
    have hrd : ∀ W : World, Below W0.heap.size W0 W → Calls Tryz.prog 141 #[.slice A T.length cap, .int .i64 i] W (ReadPost (readX T i) W) := fun W hb => read17 T hT hT2 A cap i hi W ((hrow.below hb (by omega)).more (by have := hb.size; omega))
    generalize readX T i = X at hrd hx0 ⊢
    obtain ⟨x, n', f'⟩ := X
    have hx0 : f' ≠ 0 → x = ex0 := hx0
    have c0 := h0.c0
    have c1 := h0.c1
    have c2 := h0.c2
    dsimp only at c1 c2
    have hW' : w.alloc (.cells #[.int .i64 0, .int .i64 0, .string ⟨#[]⟩, .slice none 0 0] 47) = W0 := hW
    clear hW
    go_enter Tryz.func106, Tryz.ntmps106
    go_wp2_with (fail)
    clear hW'
    have kS0 : W0.cell? ⟨b, 0, none⟩ = some (.slice A T.length cap) ∧ W0.cell? ⟨b, 1, none⟩ = some (.int .i64 i) := ⟨c0, c1⟩
    have kS1 : W0.drew.cell? ⟨b, 0, none⟩ = some (.slice A T.length cap) ∧ W0.drew.cell? ⟨b, 1, none⟩ = some (.int .i64 i) := ⟨c0, c1⟩
    have kS : ∀ W, Below W0.heap.size W0 W → W.cell? ⟨b, 0, none⟩ = some (.slice A T.length cap) ∧ W.cell? ⟨b, 1, none⟩ = some (.int .i64 i) := fun W hb => ⟨(h0.below (hb.mono (Nat.le_refl _))).c0, (h0.below hb).c1⟩
    have kS4 : ∀ (W : World) (x0 x1 x2 x3 : Value), Below W0.heap.size W0 W → ((((W.setCell ⟨w.heap.size + 1, 0, none⟩ x0).setCell ⟨w.heap.size + 1, 1, none⟩ x1).setCell ⟨w.heap.size + 1, 2, none⟩ x2).setCell ⟨w.heap.size + 1, 3, none⟩ x3).cell? ⟨b, 0, none⟩ = some (.slice A T.length cap) ∧ ((((W.setCell ⟨w.heap.size + 1, 0, none⟩ x0).setCell ⟨w.heap.size + 1, 1, none⟩ x1).setCell ⟨w.heap.size + 1, 2, none⟩ x2).setCell ⟨w.heap.size + 1, 3, none⟩ x3).cell? ⟨b, 1, none⟩ = some (.int .i64 i) := fun W x0 x1 x2 x3 hb =>
      have hh := Rd18.of (h0.below hb) (w' := (((W.setCell ⟨w.heap.size + 1, 0, none⟩ x0).setCell ⟨w.heap.size + 1, 1, none⟩ x1).setCell ⟨w.heap.size + 1, 2, none⟩ x2).setCell ⟨w.heap.size + 1, 3, none⟩ x3) (fun q hq => setA_old W _ _ _ _ _ q (by omega))
      ⟨hh.c0, hh.c1⟩
    have hbA : Below W0.heap.size W0 W0.drew := (Below.refl _ _).drew
    have hbB : Below W0.heap.size W0 (W0.alloc (.cells #[.int .i64 0, .int .i64 0, .string ⟨#[]⟩, .slice none 0 0] 47)).drew := ((Below.refl _ _).alloc (Nat.le_refl _) _).drew
    have hbAlloc : ∀ W, Below W0.heap.size W0 W → Below W0.heap.size W0 (W.alloc (.cells #[.int .i64 0, .int .i64 0, .string ⟨#[]⟩, .slice none 0 0] 47)) := fun W hb => hb.alloc hb.size _
    have gB : (W0.alloc (.cells #[.int .i64 0, .int .i64 0, .string ⟨#[]⟩, .slice none 0 0] 47)).drew.heap[W0.heap.size]? = some (.cells #[.int .i64 0, .int .i64 0, .string ⟨#[]⟩, .slice none 0 0] 47 (0, 0)) := heap_alloc_new W0 _
    have sB : (W0.alloc (.cells #[.int .i64 0, .int .i64 0, .string ⟨#[]⟩, .slice none 0 0] 47)).drew.heap.size = W0.heap.size + 1 := by simp [World.drew]
    have J : ∀ w1, Below (W0.alloc (.cells #[.int .i64 0, .int .i64 0, .string ⟨#[]⟩, .slice none 0 0] 47)).drew.heap.size (W0.alloc (.cells #[.int .i64 0, .int .i64 0, .string ⟨#[]⟩, .slice none 0 0] 47)).drew w1 → w1.heap[w.heap.size + 1]? = some (.cells #[.int .i64 0, .int .i64 0, .string ⟨#[]⟩, .slice none 0 0] 47 (0, 0)) ∧ Below W0.heap.size W0 w1 := fun w1 hb => ⟨(congrArg (fun q => w1.heap[q]?) hs0).symm.trans ((hb.block W0.heap.size (by omega)).trans gB), hbB.trans (hb.mono (by omega))⟩
    have JA : ∀ w1, Below W0.drew.heap.size W0.drew w1 → Below W0.heap.size W0 w1 := fun w1 hb => hbA.trans hb
    go_region_held3 (fun w' => w'.cell? ⟨b, 0, none⟩ = some (.slice A T.length cap) ∧ w'.cell? ⟨b, 1, none⟩ = some (.int .i64 i))
      (first
        | (with_reducible exact kS0)
        | (with_reducible exact kS1)
        | (with_reducible exact kS _ B1)
        | (with_reducible exact kS _ (hbAlloc _ B1))
        | (with_reducible exact kS _ (B1.alloc B1.size _))
        | (with_reducible exact kS4 _ _ _ _ _ B1)
        | (with_reducible exact kS _ hbB)
        | go_keep)
      (first
      | (go_at_call 141; (with_reducible refine (hrd W0.drew hbA).mono ?_); rintro e w1 ⟨C, rfl, hat, hb1⟩; obtain ⟨o, m, s, A', k, cap', hC⟩ := hat.cells; obtain rfl := Value.agg.inj hC; have B1 := JA _ hb1)
      | (go_at_call 141; (with_reducible refine (hrd (W0.alloc (.cells #[.int .i64 0, .int .i64 0, .string ⟨#[]⟩, .slice none 0 0] 47)).drew hbB).mono ?_); rintro e w1 ⟨C, rfl, hat, hb1⟩; obtain ⟨o, m, s, A', k, cap', hC⟩ := hat.cells; obtain rfl := Value.agg.inj hC; obtain ⟨g3, B1⟩ := J w1 hb1; obtain ⟨k0, k1, k2, k3⟩ := cell4 g3; have kf := froz g3))
    · have M : TermMid w (w1.alloc (.cells #[.int .i64 o, .int .i64 m, .string (tx s), .slice A' k cap'] 47)) b A cap T ⟨i, er⟩ w1.heap.size x (.int .i64 o) (.int .i64 m) (.string (tx s)) (.slice A' k cap') := termMidA hlt b0 hw0 hs0 h0 hat B1
      generalize hW2 : w1.alloc (.cells #[.int .i64 o, .int .i64 m, .string (tx s), .slice A' k cap'] 47) = W2 at M ⊢
      generalize w1.heap.size = g3 at M ⊢
      clear hW2 hrd kS kS0 kS1 kS4 hbA hbB hbAlloc gB sB J JA d0 d1 d2 d3 df
      obtain ⟨p0, p1, p2, p3⟩ := cell4 M.at3
      have pf := froz M.at3
      obtain ⟨q0, q1, q2, q3⟩ := cell4 M.res
      have qf := froz M.res
      have r1 := M.rd.c1
      have rf := M.rd.fz 1
      have hbad := bad18 M.rd f'
      cases ef : (f' != 0)
      · have hf : f' = 0 := by simpa using ef
        have hne : w.heap.size ≠ b := by omega
        obtain ⟨s0, s1, s2, s3⟩ := cell4 (set_blk M.at3 M.nb 1 (.int .i64 n'))
        obtain ⟨u0, u1, u2, u3⟩ := cell4 (set_blk M.res hne 1 (.int .i64 n'))
        have uf := froz (set_blk M.res hne 1 (.int .i64 n'))
        go_wp2_with (fail)
        have P := term_put (τ := ⟨n', er⟩) hlt (ExAt.keep (w' := W2.setCell ⟨b, 1, none⟩ (.int .i64 n')) (fun g hg => ⟨hg.1, hg.2.1, by simpa [World.setCell] using hg.2.2⟩) (fun g hg => Below.heap_setCell _ _ _ _ (by have := hg.1; show g ≠ b; omega)) x _ M.val) (M.rd.set1 n') (M.stay.trans (Stay.set W2 1 _))
        exact bodyPost_ret (results_cell_row rfl _ _ w.heap.size 47 _ (0, 0) _ rfl (setA _ w.heap.size 47 _ _ _ _ _ _ _ _ (set_blk M.res hne 1 _)) Tryz.underlying47 rfl (by kernel_rfl)) rfl
          ⟨_, rfl, P.1, by first | (rw [if_pos hf]; exact P.2.1) | exact P.2.1, P.2.2⟩
      · have hf : f' ≠ 0 := by simpa using ef
        go_wp2_with (fail)
        (with_reducible refine hbad.mono ?_); rintro e w3 ⟨rfl, hr3, hs3⟩
        have g0 := (hs3.block w.heap.size (Array.getElem?_eq_some_iff.1 M.res).1 (by omega)).trans M.res
        obtain ⟨u0, u1, u2, u3⟩ := cell4 g0
        have uf := froz g0
        clear p0 p1 p2 p3 pf q0 q1 q2 q3 qf r1 rf hbad
        go_wp2_with (fail)
        have P := term_put (τ := ⟨i, f'⟩) hlt (exAt0 w3 _) (by have h := hr3; rw [hbs f'] at h; exact h) (M.stay.trans hs3)
        obtain rfl := hx0 hf
        exact bodyPost_ret (results_cell_row rfl _ _ w.heap.size 47 _ (0, 0) _ rfl (setA _ w.heap.size 47 _ _ _ _ _ _ _ _ g0) Tryz.underlying47 rfl (by kernel_rfl)) rfl
          ⟨_, rfl, P.1, by first | (rw [if_neg hf]; exact P.2.1) | exact P.2.1, P.2.2⟩
    · have M : TermMid w ((((w1.setCell ⟨w.heap.size + 1, 0, none⟩ (.int .i64 o)).setCell ⟨w.heap.size + 1, 1, none⟩ (.int .i64 m)).setCell ⟨w.heap.size + 1, 2, none⟩ (.string (tx s))).setCell ⟨w.heap.size + 1, 3, none⟩ (.slice A' k cap')) b A cap T ⟨i, er⟩ (w.heap.size + 1) x (.int .i64 o) (.int .i64 m) (.string (tx s)) (.slice A' k cap') := termMidB hlt b0 hw0 hs0 h0 g3 (ExAt.keep (fun g hg => ⟨by have h := hg.1; rw [sB, hs0] at h; exact h, hg.2⟩) (fun _ _ => rfl) x _ hat) B1
      clear g3 k0 k1 k2 k3 kf
      generalize hW2 : (((w1.setCell ⟨w.heap.size + 1, 0, none⟩ (.int .i64 o)).setCell ⟨w.heap.size + 1, 1, none⟩ (.int .i64 m)).setCell ⟨w.heap.size + 1, 2, none⟩ (.string (tx s))).setCell ⟨w.heap.size + 1, 3, none⟩ (.slice A' k cap') = W2 at M ⊢
      generalize w.heap.size + 1 = g3 at M ⊢
      clear hW2 hrd kS kS0 kS1 kS4 hbA hbB hbAlloc gB sB J JA d0 d1 d2 d3 df
      obtain ⟨p0, p1, p2, p3⟩ := cell4 M.at3
      have pf := froz M.at3
      obtain ⟨q0, q1, q2, q3⟩ := cell4 M.res
      have qf := froz M.res
      have r1 := M.rd.c1
      have rf := M.rd.fz 1
      have hbad := bad18 M.rd f'
      cases ef : (f' != 0)
      · have hf : f' = 0 := by simpa using ef
        have hne : w.heap.size ≠ b := by omega
        obtain ⟨s0, s1, s2, s3⟩ := cell4 (set_blk M.at3 M.nb 1 (.int .i64 n'))
        obtain ⟨u0, u1, u2, u3⟩ := cell4 (set_blk M.res hne 1 (.int .i64 n'))
        have uf := froz (set_blk M.res hne 1 (.int .i64 n'))
        go_wp2_with (fail)
        have P := term_put (τ := ⟨n', er⟩) hlt (ExAt.keep (w' := W2.setCell ⟨b, 1, none⟩ (.int .i64 n')) (fun g hg => ⟨hg.1, hg.2.1, by simpa [World.setCell] using hg.2.2⟩) (fun g hg => Below.heap_setCell _ _ _ _ (by have := hg.1; show g ≠ b; omega)) x _ M.val) (M.rd.set1 n') (M.stay.trans (Stay.set W2 1 _))
        exact bodyPost_ret (results_cell_row rfl _ _ w.heap.size 47 _ (0, 0) _ rfl (setA _ w.heap.size 47 _ _ _ _ _ _ _ _ (set_blk M.res hne 1 _)) Tryz.underlying47 rfl (by kernel_rfl)) rfl
          ⟨_, rfl, P.1, by first | (rw [if_pos hf]; exact P.2.1) | exact P.2.1, P.2.2⟩
      · have hf : f' ≠ 0 := by simpa using ef
        go_wp2_with (fail)
        (with_reducible refine hbad.mono ?_); rintro e w3 ⟨rfl, hr3, hs3⟩
        have g0 := (hs3.block w.heap.size (Array.getElem?_eq_some_iff.1 M.res).1 (by omega)).trans M.res
        obtain ⟨u0, u1, u2, u3⟩ := cell4 g0
        have uf := froz g0
        clear p0 p1 p2 p3 pf q0 q1 q2 q3 qf r1 rf hbad
        go_wp2_with (fail)
        have P := term_put (τ := ⟨i, f'⟩) hlt (exAt0 w3 _) (by have h := hr3; rw [hbs f'] at h; exact h) (M.stay.trans hs3)
        obtain rfl := hx0 hf
        exact bodyPost_ret (results_cell_row rfl _ _ w.heap.size 47 _ (0, 0) _ rfl (setA _ w.heap.size 47 _ _ _ _ _ _ _ _ g0) Tryz.underlying47 rfl (by kernel_rfl)) rfl
          ⟨_, rfl, P.1, by first | (rw [if_neg hf]; exact P.2.1) | exact P.2.1, P.2.2⟩
end
end Go.Proofs.YtpdkpkabdkefcaaGreatDoor
namespace Go.Proofs.YtpdkpkabdkefcaaGreatDoor
open Go.Sx Go.ChangeShapes Go.WideShapes Go.RowKit Go.Joins Go.Deep Go.Rp
structure Stay2 (b g : Nat) (w w' : World) : Prop where
  os : w'.os = w.os
  tape : w'.tape = w.tape
  output : w'.output = w.output
  size : w.heap.size ≤ w'.heap.size
  block : ∀ k, k < w.heap.size → k ≠ b → k ≠ g → w'.heap[k]? = w.heap[k]?
theorem Stay2.refl (b g : Nat) (w : World) : Stay2 b g w w := ⟨rfl, rfl, rfl, Nat.le_refl _, fun _ _ _ _ => rfl⟩
theorem Stay2.trans {b g : Nat} {u v w : World} (h : Stay2 b g u v) (k : Stay2 b g v w) : Stay2 b g u w :=
  ⟨k.os.trans h.os, k.tape.trans h.tape, k.output.trans h.output, Nat.le_trans h.size k.size, fun i hi hb hg => (k.block i (Nat.lt_of_lt_of_le hi h.size) hb hg).trans (h.block i hi hb hg)⟩
theorem Stay2.of {b g : Nat} {w w' : World} (h : Stay b w w') : Stay2 b g w w' := ⟨h.os, h.tape, h.output, h.size, fun k hk hb _ => h.block k hk hb⟩
theorem Stay2.set {b g : Nat} (w : World) (o : Nat) (u : Value) : Stay2 b g w (w.setCell ⟨g, o, none⟩ u) := ⟨rfl, rfl, rfl, by simp [World.setCell], fun k _ _ hn => Below.heap_setCell _ _ _ _ hn⟩
abbrev lwC (y : Lw) (e0 e1 e2 e3 : Value) : Array Value := #[.string (tx y.lab), .int .i64 y.k, .int .i64 y.op, .int .i64 y.ic, .int .i64 y.rd, .int .i64 y.rn, .int .i64 y.rm, .int .i64 y.im, .int .i64 y.md, .int .i64 y.ls, .bool y.s, .int .i64 y.c, .string (tx y.ref), .bool y.wd, .int .i64 y.sz, e0, e1, e2, e3]
def LwAt (w : World) (g : Nat) (y : Lw) : Prop :=
  ∃ e0 e1 e2 e3, w.heap[g]? = some (.cells (lwC y e0 e1 e2 e3) 49 (0, 0)) ∧ ExAt w (fun q => g < q ∧ q < w.heap.size) y.ex (.agg #[e0, e1, e2, e3])
section
variable {w w' : World} {b g : Nat} {A : Option Addr} {cap : Nat} {T : List Tok} {σ : Rs} {y : Lw}
theorem LwAt.lt (h : LwAt w g y) : g < w.heap.size := by
  obtain ⟨_, _, _, _, h, _⟩ := h
  exact (Array.getElem?_eq_some_iff.1 h).1
theorem LwAt.fz (h : LwAt w g y) (j : Nat) : w.frozen? ⟨g, j, none⟩ = false := by
  obtain ⟨_, _, _, _, h, _⟩ := h
  simp [World.frozen?, h]
theorem LwAt.stay (h : LwAt w g y) (hs : Stay b w w') (hbg : b < g) : LwAt w' g y := by
  have hl := h.lt
  obtain ⟨e0, e1, e2, e3, h, hx⟩ := h
  exact ⟨e0, e1, e2, e3, (hs.block g hl (by omega)).trans h, ExAt.keep (fun q hq => ⟨hq.1, by have := hs.size; omega⟩) (fun q hq => hs.block q hq.2 (by omega)) _ _ hx⟩
theorem LwAt.set {y' : Lw} (h : LwAt w g y) (j : Nat) (v : Value) (he : y'.ex = y.ex) (hc : ∀ e0 e1 e2 e3, (lwC y e0 e1 e2 e3).setIfInBounds j v = lwC y' e0 e1 e2 e3) : LwAt (w.setCell ⟨g, j, none⟩ v) g y' := by
  obtain ⟨e0, e1, e2, e3, h, hx⟩ := h
  refine ⟨e0, e1, e2, e3, by rw [setCell_at h, hc], ?_⟩
  rw [he]
  exact ExAt.keep (fun q hq => ⟨hq.1, by simpa [World.setCell] using hq.2⟩) (fun q hq => Below.heap_setCell _ _ _ _ (by show q ≠ g; omega)) _ _ hx
theorem LwAt.c (h : LwAt w g y) : w.cell? ⟨g, 1, none⟩ = some (.int .i64 y.k) ∧ w.cell? ⟨g, 2, none⟩ = some (.int .i64 y.op) ∧ w.cell? ⟨g, 3, none⟩ = some (.int .i64 y.ic) ∧ w.cell? ⟨g, 4, none⟩ = some (.int .i64 y.rd) ∧
    w.cell? ⟨g, 5, none⟩ = some (.int .i64 y.rn) ∧ w.cell? ⟨g, 6, none⟩ = some (.int .i64 y.rm) ∧ w.cell? ⟨g, 7, none⟩ = some (.int .i64 y.im) ∧ w.cell? ⟨g, 8, none⟩ = some (.int .i64 y.md) ∧ w.cell? ⟨g, 9, none⟩ = some (.int .i64 y.ls) ∧
    w.cell? ⟨g, 10, none⟩ = some (.bool y.s) ∧ w.cell? ⟨g, 11, none⟩ = some (.int .i64 y.c) ∧ w.cell? ⟨g, 12, none⟩ = some (.string (tx y.ref)) ∧ w.cell? ⟨g, 13, none⟩ = some (.bool y.wd) := by
  obtain ⟨_, _, _, _, h, _⟩ := h
  simp [World.cell?, h]
theorem RdS.setL (h : RdS w b A cap T σ) (hbg : b < g) (j : Nat) (v : Value) : RdS (w.setCell ⟨g, j, none⟩ v) b A cap T σ := Rd18.of h fun q hq => Below.heap_setCell _ _ _ _ (by show q ≠ g; omega)
def FillPost (T : List Tok) (b g : Nat) (A : Option Addr) (cap : Nat) (σ : Rs) (y : Lw) (w : World) (e : Ending) (w' : World) : Prop :=
  e = .returned (.tuple #[]) ∧ RdS w' b A cap T σ ∧ LwAt w' g y ∧ Stay2 b g w w'
set_option maxHeartbeats 4000000 in
theorem reach18 (hr : RdS w b A cap T σ) (hl : LwAt w g y) (hbg : b < g) (hi : σ.i ≤ 1000000) (hT2 : ∀ t ∈ T, t.t.length ≤ 1000000000000) :
    Calls Tryz.prog 174 #[.pointer (some ⟨b, 0, none⟩), .pointer (some ⟨g, 0, none⟩)] w (FillPost T b g A cap (reachT T σ) (reachL T σ y) w) := by
  obtain ⟨_, _, _, _, _, _, _, c8, _, _, _, c12, _⟩ := hl.c
  have f8 := hl.fz 8
  have l1 : LwAt (w.setCell ⟨g, 8, none⟩ (.int .i64 1)) g { y with md := 1 } := hl.set 8 _ rfl fun _ _ _ _ => rfl
  have hn := name18 (hr.setL hbg 8 (.int .i64 1)) hi hT2
  unfold FillPost reachT reachL
  generalize nameV T σ = v at hn ⊢
  generalize nameT T σ = τ at hn ⊢
  go_enter Tryz.func174, Tryz.ntmps174
  go_wp2_with (fail)
  ((with_reducible refine hn.mono ?_); rintro e w1 ⟨rfl, h1, s1⟩)
  have l2 := l1.stay s1 hbg
  obtain ⟨_, _, _, _, _, _, _, _, _, _, _, d12, _⟩ := l2.c
  have f12 := l2.fz 12
  clear c8 c12 f8 hn
  go_wp2_with (fail)
  exact bodyPost_end (results_none rfl _ _ _) rfl ⟨rfl, h1.setL hbg _ _, l2.set 12 _ rfl fun _ _ _ _ => rfl, ((Stay2.set w 8 _).trans (Stay2.of s1)).trans (Stay2.set _ 12 _)⟩
theorem LwAt.setEx {x : Et} {B : Nat} {x0 x1 x2 x3 : Value} (h : LwAt w g y) (hx : ExAt w (fun q => B ≤ q ∧ q < w.heap.size) x (.agg #[x0, x1, x2, x3])) (hB : g < B) :
    LwAt ((((w.setCell ⟨g, 15, none⟩ x0).setCell ⟨g, 16, none⟩ x1).setCell ⟨g, 17, none⟩ x2).setCell ⟨g, 18, none⟩ x3) g { y with ex := x } := by
  obtain ⟨e0, e1, e2, e3, h, _⟩ := h
  have hs : ((((w.setCell ⟨g, 15, none⟩ x0).setCell ⟨g, 16, none⟩ x1).setCell ⟨g, 17, none⟩ x2).setCell ⟨g, 18, none⟩ x3).heap.size = w.heap.size := by simp [World.setCell]
  refine ⟨x0, x1, x2, x3, setCell_at (setCell_at (setCell_at (setCell_at h _) _) _) _, ExAt.keep (fun q hq => ⟨by omega, by rw [hs]; exact hq.2⟩) (fun q hq => ?_) _ _ hx⟩
  have hq1 : q ≠ g := by omega
  rw [Below.heap_setCell _ _ _ _ hq1, Below.heap_setCell _ _ _ _ hq1, Below.heap_setCell _ _ _ _ hq1, Below.heap_setCell _ _ _ _ hq1]
theorem Stay2.set4 {b g : Nat} (w : World) (j0 j1 j2 j3 : Nat) (x0 x1 x2 x3 : Value) : Stay2 b g w ((((w.setCell ⟨g, j0, none⟩ x0).setCell ⟨g, j1, none⟩ x1).setCell ⟨g, j2, none⟩ x2).setCell ⟨g, j3, none⟩ x3) :=
  (((Stay2.set w j0 x0).trans (Stay2.set _ j1 x1)).trans (Stay2.set _ j2 x2)).trans (Stay2.set _ j3 x3)
theorem RdS.setL4 (h : RdS w b A cap T σ) (hbg : b < g) (j0 j1 j2 j3 : Nat) (x0 x1 x2 x3 : Value) : RdS ((((w.setCell ⟨g, j0, none⟩ x0).setCell ⟨g, j1, none⟩ x1).setCell ⟨g, j2, none⟩ x2).setCell ⟨g, j3, none⟩ x3) b A cap T σ :=
  (((h.setL hbg j0 x0).setL hbg j1 x1).setL hbg j2 x2).setL hbg j3 x3
theorem LwAt.x4 (h : LwAt w g y) : ∃ e0 e1 e2 e3, w.cell? ⟨g, 15, none⟩ = some e0 ∧ w.cell? ⟨g, 16, none⟩ = some e1 ∧ w.cell? ⟨g, 17, none⟩ = some e2 ∧ w.cell? ⟨g, 18, none⟩ = some e3 := by
  obtain ⟨e0, e1, e2, e3, h, _⟩ := h
  exact ⟨e0, e1, e2, e3, by simp [World.cell?, h], by simp [World.cell?, h], by simp [World.cell?, h], by simp [World.cell?, h]⟩
set_option maxHeartbeats 4000000 in
theorem last18 (hr : RdS w b A cap T σ) (hl : LwAt w g y) (hbg : b < g) (hi : σ.In T) (hT : T.length ≤ 900000) (hT2 : ∀ t ∈ T, t.t.length ≤ 1000000000000) :
    Calls Tryz.prog 148 #[.pointer (some ⟨b, 0, none⟩), .pointer (some ⟨g, 0, none⟩)] w (FillPost T b g A cap (lastT T σ) (lastL T σ y) w) := by
  obtain ⟨_, _, _, _, _, _, _, c8, _, _, _, c12, _⟩ := hl.c
  have f8 := hl.fz 8
  have l1 : LwAt (w.setCell ⟨g, 8, none⟩ (.int .i64 2)) g { y with md := 2 } := hl.set 8 _ rfl fun _ _ _ _ => rfl
  have ht := take18 (hr.setL hbg 8 (.int .i64 2)) (by have : σ.i ≤ T.length := hi; omega) [35]
  have hi2 := takeT_in hi [35]
  unfold FillPost lastT lastL
  generalize takeT T σ [35] = τ at ht hi2 ⊢
  generalize takeB T σ [35] = r at ht ⊢
  cases r
  · rw [if_neg (by decide), if_neg (by decide)]
    have hn : ∀ w1, RdS w1 b A cap T τ → _ := fun w1 h => reg18 h (by have : τ.i ≤ T.length := hi2; omega)
    generalize regV T τ = v at hn ⊢
    generalize regT T τ = τ2 at hn ⊢
    go_enter Tryz.func148, Tryz.ntmps148
    go_wp2_with (fail)
    ((with_reducible refine ht.mono ?_); rintro e w1 ⟨rfl, h1, s1⟩)
    have l2 := l1.stay s1 hbg
    clear c8 c12 f8 ht
    go_wp2_with (fail)
    ((with_reducible refine (hn _ h1).mono ?_); rintro e w2 ⟨rfl, h2, s2⟩)
    have l3 := l2.stay s2 hbg
    obtain ⟨_, _, _, _, _, d6, _⟩ := l3.c
    have f6 := l3.fz 6
    clear hn
    go_wp2_with (fail)
    exact bodyPost_end (results_none rfl _ _ _) rfl ⟨rfl, h2.setL hbg _ _, l3.set 6 _ rfl fun _ _ _ _ => rfl, (((Stay2.set w 8 _).trans (Stay2.of s1)).trans (Stay2.of s2)).trans (Stay2.set _ 6 _)⟩
  · rw [if_pos rfl, if_pos rfl]
    have hn : ∀ w1, RdS w1 b A cap T τ → _ := fun w1 h => term18 h hi2 hT hT2
    unfold TermPost18 at hn
    generalize termV T τ = v at hn ⊢
    generalize termT T τ = τ2 at hn ⊢
    go_enter Tryz.func148, Tryz.ntmps148
    go_wp2_with (fail)
    ((with_reducible refine ht.mono ?_); rintro e w1 ⟨rfl, h1, s1⟩)
    have l2 := l1.stay s1 hbg
    obtain ⟨_, _, _, _, _, _, _, d8, _⟩ := l2.c
    have f8' := l2.fz 8
    have l2' : LwAt (w1.setCell ⟨g, 8, none⟩ (.int .i64 1)) g { y with md := 1 } := l2.set 8 _ rfl fun _ _ _ _ => rfl
    have h1' := h1.setL hbg 8 (.int .i64 1)
    clear c8 c12 f8 ht
    go_wp2_with (fail)
    ((with_reducible refine (hn _ h1').mono ?_); rintro e w2 ⟨C, rfl, hx, h2, s2⟩)
    obtain ⟨o, m, s, A', k, cap', hC⟩ := hx.cells
    obtain rfl := Value.agg.inj hC
    have l3 := l2'.stay s2 hbg
    obtain ⟨_, _, _, _, d15, d16, d17, d18⟩ := l3.x4
    have f15 := l3.fz 15
    have f16 := l3.fz 16
    have f17 := l3.fz 17
    have f18 := l3.fz 18
    clear hn d8 f8'
    go_wp2_with (fail)
    exact bodyPost_ret (results_none rfl _ _ _) rfl ⟨rfl, h2.setL4 hbg _ _ _ _ _ _ _ _, l3.setEx hx l2'.lt, ((((Stay2.set w 8 _).trans (Stay2.of s1)).trans (Stay2.set _ 8 _)).trans (Stay2.of s2)).trans (Stay2.set4 _ _ _ _ _ _ _ _ _)⟩
end
end Go.Proofs.YtpdkpkabdkefcaaGreatDoor
namespace Go.Proofs.YtpdkpkabdkefcaaGreatDoor
open Go.Sx Go.ChangeShapes Go.WideShapes Go.RowKit Go.Joins Go.Deep Go.Rp
structure Fill (T : List Tok) (b g : Nat) (A : Option Addr) (cap : Nat) (w0 w : World) (p : Fs) : Prop where
  rd : RdS w b A cap T p.1
  ln : LwAt w g p.2
  inn : p.1.In T
  st : Stay2 b g w0 w
def FillV (T : List Tok) (b g : Nat) (A : Option Addr) (cap : Nat) (w0 : World) (v : Value) (p : Fs) (e : Ending) (w : World) : Prop := e = .returned v ∧ Fill T b g A cap w0 w p
section
variable {w w0 : World} {b g : Nat} {A : Option Addr} {cap : Nat} {T : List Tok} {p : Fs}
theorem Fill.step (F : Fill T b g A cap w0 w p) (hbg : b < g) {w' : World} {τ : Rs} (hr : RdS w' b A cap T τ) (hi : τ.In T) (hs : Stay b w w') : Fill T b g A cap w0 w' (τ, p.2) :=
  ⟨hr, F.ln.stay hs hbg, hi, F.st.trans (Stay2.of hs)⟩
theorem Fill.le (F : Fill T b g A cap w0 w p) (hT : T.length ≤ 900000) : p.1.i ≤ 1000000 := by have : p.1.i ≤ T.length := F.inn; omega
theorem Fill.must (F : Fill T b g A cap w0 w p) (hbg : b < g) (hT : T.length ≤ 900000) (s : Bs) :
    Calls Tryz.prog 147 #[.pointer (some ⟨b, 0, none⟩), .string (tx s)] w (FillV T b g A cap w0 (.tuple #[]) (stMust T s p)) :=
  (must18 F.rd (F.le hT) s).mono fun _ _ h => ⟨h.1, F.step hbg h.2.1 (mustT_in F.inn s) h.2.2⟩
theorem Fill.take (F : Fill T b g A cap w0 w p) (hbg : b < g) (hT : T.length ≤ 900000) (s : Bs) :
    Calls Tryz.prog 171 #[.pointer (some ⟨b, 0, none⟩), .string (tx s)] w (FillV T b g A cap w0 (.bool (takeB T p.1 s)) (stTake T s p)) :=
  (take18 F.rd (F.le hT) s).mono fun _ _ h => ⟨h.1, F.step hbg h.2.1 (takeT_in F.inn s) h.2.2⟩
theorem Fill.reg (F : Fill T b g A cap w0 w p) (hbg : b < g) (hT : T.length ≤ 900000) :
    Calls Tryz.prog 146 #[.pointer (some ⟨b, 0, none⟩)] w (FillV T b g A cap w0 (.int .i64 (regV T p.1)) (regT T p.1, p.2)) :=
  (reg18 F.rd (F.le hT)).mono fun _ _ h => ⟨h.1, F.step hbg h.2.1 (regT_in F.inn) h.2.2⟩
theorem Fill.set (F : Fill T b g A cap w0 w p) (hbg : b < g) {y' : Lw} (j : Nat) (v : Value) (he : y'.ex = p.2.ex) (hc : ∀ e0 e1 e2 e3, (lwC p.2 e0 e1 e2 e3).setIfInBounds j v = lwC y' e0 e1 e2 e3) :
    Fill T b g A cap w0 (w.setCell ⟨g, j, none⟩ v) (p.1, y') := ⟨F.rd.setL hbg j v, F.ln.set j v he hc, F.inn, F.st.trans (Stay2.set _ j v)⟩
theorem Fill.setRd {σ : Rs} {y : Lw} (F : Fill T b g A cap w0 w (regT T σ, y)) (hbg : b < g) : Fill T b g A cap w0 (w.setCell ⟨g, 4, none⟩ (.int .i64 (regV T σ))) (stRd T (σ, y)) := F.set hbg 4 _ rfl fun _ _ _ _ => rfl
theorem Fill.setRn {σ : Rs} {y : Lw} (F : Fill T b g A cap w0 w (regT T σ, y)) (hbg : b < g) : Fill T b g A cap w0 (w.setCell ⟨g, 5, none⟩ (.int .i64 (regV T σ))) (stRn T (σ, y)) := F.set hbg 5 _ rfl fun _ _ _ _ => rfl
theorem Fill.setMd (F : Fill T b g A cap w0 w p) (hbg : b < g) (k : Int) : Fill T b g A cap w0 (w.setCell ⟨g, 8, none⟩ (.int .i64 k)) (stMd k p) := F.set hbg 8 _ rfl fun _ _ _ _ => rfl
theorem Fill.setEx (F : Fill T b g A cap w0 w p) (hbg : b < g) {x : Et} {B : Nat} {x0 x1 x2 x3 : Value} (hx : ExAt w (fun q => B ≤ q ∧ q < w.heap.size) x (.agg #[x0, x1, x2, x3])) (hB : g < B) :
    Fill T b g A cap w0 ((((w.setCell ⟨g, 15, none⟩ x0).setCell ⟨g, 16, none⟩ x1).setCell ⟨g, 17, none⟩ x2).setCell ⟨g, 18, none⟩ x3) (stEx x p) :=
  ⟨F.rd.setL4 hbg _ _ _ _ _ _ _ _, F.ln.setEx hx hB, F.inn, F.st.trans (Stay2.set4 _ _ _ _ _ _ _ _ _)⟩
theorem Fill.reach (F : Fill T b g A cap w0 w p) (hbg : b < g) (hT : T.length ≤ 900000) (hT2 : ∀ t ∈ T, t.t.length ≤ 1000000000000) :
    Calls Tryz.prog 174 #[.pointer (some ⟨b, 0, none⟩), .pointer (some ⟨g, 0, none⟩)] w (FillV T b g A cap w0 (.tuple #[]) (stReach T p)) :=
  (reach18 F.rd F.ln hbg (F.le hT) hT2).mono fun _ _ h => ⟨h.1, h.2.1, h.2.2.1, nameT_in F.inn, F.st.trans h.2.2.2⟩
theorem lastT_in {σ : Rs} (h : σ.In T) : (lastT T σ).In T := by
  unfold lastT
  split
  · exact termT_in (takeT_in h _)
  · exact regT_in (takeT_in h _)
theorem Fill.last (F : Fill T b g A cap w0 w p) (hbg : b < g) (hT : T.length ≤ 900000) (hT2 : ∀ t ∈ T, t.t.length ≤ 1000000000000) :
    Calls Tryz.prog 148 #[.pointer (some ⟨b, 0, none⟩), .pointer (some ⟨g, 0, none⟩)] w (FillV T b g A cap w0 (.tuple #[]) (stLast T p)) :=
  (last18 F.rd F.ln hbg F.inn hT hT2).mono fun _ _ h => ⟨h.1, h.2.1, h.2.2.1, lastT_in F.inn, F.st.trans h.2.2.2⟩
theorem Fill.cs (F : Fill T b g A cap w0 w p) : w.cell? ⟨g, 2, none⟩ = some (.int .i64 p.2.op) ∧ w.cell? ⟨g, 4, none⟩ = some (.int .i64 p.2.rd) ∧ w.cell? ⟨g, 5, none⟩ = some (.int .i64 p.2.rn) ∧ w.cell? ⟨g, 6, none⟩ = some (.int .i64 p.2.rm) ∧ w.cell? ⟨g, 8, none⟩ = some (.int .i64 p.2.md) :=
  ⟨F.ln.c.2.1, F.ln.c.2.2.2.1, F.ln.c.2.2.2.2.1, F.ln.c.2.2.2.2.2.1, F.ln.c.2.2.2.2.2.2.2.1⟩
set_option maxHeartbeats 4000000 in
theorem Fill.acc (F : Fill T b g A cap w0 w p) (hbg : b < g) (hT : T.length ≤ 900000) (hT2 : ∀ t ∈ T, t.t.length ≤ 1000000000000) :
    Calls Tryz.prog 173 #[.pointer (some ⟨b, 0, none⟩), .pointer (some ⟨g, 0, none⟩)] w (FillV T b g A cap w0 (.tuple #[]) (stAcc T p)) := by
  unfold stAcc FillV
  dsimp only
  have m1 := F.must hbg hT [91]
  generalize stMust T [91] p = p1 at m1 ⊢
  obtain ⟨σ1, y1⟩ := p1
  have ht : takeB T (stEx (.mk 1 0 [] []) (stMd 1 (stRn T (σ1, y1)))).1 [44] = true → stMust T [93] (if takeB T (stEx (.mk 1 0 [] []) (stMd 1 (stRn T (σ1, y1)))).1 [44] then stLast T (stEx ex0 (stTake T [44] (stEx (.mk 1 0 [] []) (stMd 1 (stRn T (σ1, y1)))))) else stTake T [44] (stEx (.mk 1 0 [] []) (stMd 1 (stRn T (σ1, y1))))) = stMust T [93] (stLast T (stEx ex0 (stTake T [44] (stEx (.mk 1 0 [] []) (stMd 1 (stRn T (σ1, y1))))))) := fun h => by rw [if_pos h]
  have hf : takeB T (stEx (.mk 1 0 [] []) (stMd 1 (stRn T (σ1, y1)))).1 [44] = false → stMust T [93] (if takeB T (stEx (.mk 1 0 [] []) (stMd 1 (stRn T (σ1, y1)))).1 [44] then stLast T (stEx ex0 (stTake T [44] (stEx (.mk 1 0 [] []) (stMd 1 (stRn T (σ1, y1)))))) else stTake T [44] (stEx (.mk 1 0 [] []) (stMd 1 (stRn T (σ1, y1))))) = stMust T [93] (stTake T [44] (stEx (.mk 1 0 [] []) (stMd 1 (stRn T (σ1, y1))))) := fun h => by rw [if_neg (by rw [h]; decide)]
  generalize stMust T [93] (if takeB T (stEx (.mk 1 0 [] []) (stMd 1 (stRn T (σ1, y1)))).1 [44] then stLast T (stEx ex0 (stTake T [44] (stEx (.mk 1 0 [] []) (stMd 1 (stRn T (σ1, y1)))))) else stTake T [44] (stEx (.mk 1 0 [] []) (stMd 1 (stRn T (σ1, y1))))) = G at ht hf ⊢
  have Ht := Lib.hid ht
  have Hf := Lib.hid hf
  clear ht hf
  go_enter Tryz.func173, Tryz.ntmps173
  go_wp2_with (fail)
  ((with_reducible refine m1.mono ?_); rintro e w1 ⟨rfl, F1⟩)
  clear m1
  go_wp2_with (fail)
  ((with_reducible refine (F1.reg hbg hT).mono ?_); rintro e w2 ⟨rfl, F2⟩)
  obtain ⟨_, _, c5, _, _⟩ := F2.cs
  have f5 := F2.ln.fz 5
  have F3 := F2.setRn hbg
  obtain ⟨_, _, _, _, c8⟩ := F3.cs
  have f8 := F3.ln.fz 8
  have F4 := F3.setMd hbg 1
  have hsz : g < ((w2.setCell ⟨g, 5, none⟩ (.int .i64 (regV T σ1))).setCell ⟨g, 8, none⟩ (.int .i64 1)).heap.size := F4.ln.lt
  obtain ⟨_, _, _, _, d15, d16, d17, d18⟩ := F4.ln.x4
  have f15 := F4.ln.fz 15
  have f16 := F4.ln.fz 16
  have f17 := F4.ln.fz 17
  have f18 := F4.ln.fz 18
  have F5 := F4.setEx hbg (exAtN _ _ 1 0 [] (by simp)) hsz
  go_wp2_with (fail)
  have t5 := F5.take hbg hT [44]
  clear c5 f5 c8 f8 d15 d16 d17 d18 f15 f16 f17 f18
  cases hb : takeB T (stEx (.mk 1 0 [] []) (stMd 1 (stRn T (σ1, y1)))).1 [44]
  · rw [hb] at t5
    obtain rfl := Hf.out hb
    ((with_reducible refine t5.mono ?_); rintro e w3 ⟨rfl, F6⟩)
    clear t5 Ht Hf
    go_wp2_with (fail)
    ((with_reducible refine (F6.must hbg hT [93]).mono ?_); rintro e w4 ⟨rfl, F7⟩)
    go_wp2_with (fail)
    exact bodyPost_end (results_none rfl _ _ _) rfl ⟨rfl, F7⟩
  · rw [hb] at t5
    obtain rfl := Ht.out hb
    ((with_reducible refine t5.mono ?_); rintro e w3 ⟨rfl, F6⟩)
    clear t5 Ht Hf
    obtain ⟨_, _, _, _, d15, d16, d17, d18⟩ := F6.ln.x4
    have f15 := F6.ln.fz 15
    have f16 := F6.ln.fz 16
    have f17 := F6.ln.fz 17
    have f18 := F6.ln.fz 18
    have F7 := F6.setEx hbg (exAt0 _ _) F6.ln.lt
    go_wp2_with (fail)
    ((with_reducible refine (F7.last hbg hT hT2).mono ?_); rintro e w4 ⟨rfl, F8⟩)
    clear d15 d16 d17 d18 f15 f16 f17 f18
    go_wp2_with (fail)
    ((with_reducible refine (F8.must hbg hT [93]).mono ?_); rintro e w5 ⟨rfl, F9⟩)
    go_wp2_with (fail)
    exact bodyPost_end (results_none rfl _ _ _) rfl ⟨rfl, F9⟩
end
end Go.Proofs.YtpdkpkabdkefcaaGreatDoor
namespace Go.Proofs.YtpdkpkabdkefcaaGreatDoor
open Go.Sx Go.ChangeShapes Go.WideShapes Go.RowKit Go.Joins Go.Deep Go.Rp
section
variable {w w0 : World} {b g : Nat} {A : Option Addr} {cap : Nat} {T : List Tok} {p : Fs}
theorem Fill.below (F : Fill T b g A cap w0 w p) {w' : World} (hb : Below w.heap.size w w') (hbg : b < g) : Fill T b g A cap w0 w' p :=
  ⟨F.rd.below hb, F.ln.stay (Stay.of_below hb) hbg, F.inn, F.st.trans (Stay2.of (Stay.of_below hb))⟩
theorem Fill.is (F : Fill T b g A cap w0 w p) (hbg : b < g) (s : Bs) :
    Calls Tryz.prog 172 #[.pointer (some ⟨b, 0, none⟩), .string (tx s)] w (FillV T b g A cap w0 (.bool (isS (tokA T p.1.i) s)) p) :=
  (is18 F.rd s).mono fun _ _ h => ⟨h.1, F.below h.2 hbg⟩
theorem Fill.setK (F : Fill T b g A cap w0 w p) (hbg : b < g) (k : Int) : Fill T b g A cap w0 (w.setCell ⟨g, 1, none⟩ (.int .i64 k)) (stKind k p) := F.set hbg 1 _ rfl fun _ _ _ _ => rfl
theorem Fill.setIns (F : Fill T b g A cap w0 w p) (hbg : b < g) (o : Int) :
    Fill T b g A cap w0 (((((((((w.setCell ⟨g, 2, none⟩ (.int .i64 o)).setCell ⟨g, 3, none⟩ (.int .i64 0)).setCell ⟨g, 4, none⟩ (.int .i64 p.2.rd)).setCell ⟨g, 5, none⟩ (.int .i64 0)).setCell ⟨g, 6, none⟩ (.int .i64 0)).setCell ⟨g, 7, none⟩ (.int .i64 0)).setCell ⟨g, 8, none⟩ (.int .i64 0)).setCell ⟨g, 9, none⟩ (.int .i64 0)).setCell ⟨g, 10, none⟩ (.bool false)) (stIns o p) := by
  have F1 := F.set hbg (y' := { p.2 with op := o }) 2 (.int .i64 o) rfl fun _ _ _ _ => rfl
  have F2 := F1.set hbg (y' := { p.2 with op := o, ic := 0 }) 3 (.int .i64 0) rfl fun _ _ _ _ => rfl
  have F3 := F2.set hbg (y' := { p.2 with op := o, ic := 0 }) 4 (.int .i64 p.2.rd) rfl fun _ _ _ _ => rfl
  have F4 := F3.set hbg (y' := { p.2 with op := o, ic := 0, rn := 0 }) 5 (.int .i64 0) rfl fun _ _ _ _ => rfl
  have F5 := F4.set hbg (y' := { p.2 with op := o, ic := 0, rn := 0, rm := 0 }) 6 (.int .i64 0) rfl fun _ _ _ _ => rfl
  have F6 := F5.set hbg (y' := { p.2 with op := o, ic := 0, rn := 0, rm := 0, im := 0 }) 7 (.int .i64 0) rfl fun _ _ _ _ => rfl
  have F7 := F6.set hbg (y' := { p.2 with op := o, ic := 0, rn := 0, rm := 0, im := 0, md := 0 }) 8 (.int .i64 0) rfl fun _ _ _ _ => rfl
  have F8 := F7.set hbg (y' := { p.2 with op := o, ic := 0, rn := 0, rm := 0, im := 0, md := 0, ls := 0 }) 9 (.int .i64 0) rfl fun _ _ _ _ => rfl
  exact F8.set hbg (y' := { p.2 with op := o, ic := 0, rn := 0, rm := 0, im := 0, md := 0, ls := 0, s := false }) 10 (.bool false) rfl fun _ _ _ _ => rfl
theorem Fill.ci (F : Fill T b g A cap w0 w p) : w.cell? ⟨g, 1, none⟩ = some (.int .i64 p.2.k) ∧ w.cell? ⟨g, 2, none⟩ = some (.int .i64 p.2.op) ∧ w.cell? ⟨g, 3, none⟩ = some (.int .i64 p.2.ic) ∧ w.cell? ⟨g, 4, none⟩ = some (.int .i64 p.2.rd) ∧
    w.cell? ⟨g, 5, none⟩ = some (.int .i64 p.2.rn) ∧ w.cell? ⟨g, 6, none⟩ = some (.int .i64 p.2.rm) ∧ w.cell? ⟨g, 7, none⟩ = some (.int .i64 p.2.im) ∧ w.cell? ⟨g, 8, none⟩ = some (.int .i64 p.2.md) ∧ w.cell? ⟨g, 9, none⟩ = some (.int .i64 p.2.ls) ∧
    w.cell? ⟨g, 10, none⟩ = some (.bool p.2.s) := by
  obtain ⟨a1, a2, a3, a4, a5, a6, a7, a8, a9, a10, _⟩ := F.ln.c
  exact ⟨a1, a2, a3, a4, a5, a6, a7, a8, a9, a10⟩
theorem Fill.term (F : Fill T b g A cap w0 w p) (hbg : b < g) (hT : T.length ≤ 900000) (hT2 : ∀ t ∈ T, t.t.length ≤ 1000000000000) :
    Calls Tryz.prog 106 #[.pointer (some ⟨b, 0, none⟩)] w fun e w' => ∃ o m s A' k cap', e = .returned (.agg (exC o m s A' k cap')) ∧ Fill T b g A cap w0 w' (termT T p.1, p.2) ∧
      ExAt w' (fun q => w.heap.size ≤ q ∧ q < w'.heap.size) (termV T p.1) (.agg (exC o m s A' k cap')) :=
  (term18 F.rd F.inn hT hT2).mono fun e w' ⟨C, h1, hx, h2, h3⟩ => by
    obtain ⟨o, m, s, A', k, cap', hC⟩ := hx.cells
    obtain rfl := Value.agg.inj hC
    exact ⟨o, m, s, A', k, cap', h1, F.step hbg h2 (termT_in F.inn) h3, hx⟩
set_option maxHeartbeats 4000000 in
theorem Fill.loads (F : Fill T b g A cap w0 w p) (hbg : b < g) (hT : T.length ≤ 900000) (hT2 : ∀ t ∈ T, t.t.length ≤ 1000000000000) :
    Calls Tryz.prog 149 #[.pointer (some ⟨b, 0, none⟩), .pointer (some ⟨g, 0, none⟩)] w (FillV T b g A cap w0 (.tuple #[]) (stLoads T p)) := by
  obtain ⟨σ, y⟩ := p
  unfold stLoads FillV
  generalize hq : stMust T [44] (stRd T (σ, y)) = q
  generalize hG0 : stLoads1 T q = G
  have HG := Lib.hid hG0
  clear hG0
  go_enter Tryz.func149, Tryz.ntmps149
  go_wp2_with (fail)
  ((with_reducible refine (F.reg hbg hT).mono ?_); rintro e w1 ⟨rfl, F1⟩)
  obtain ⟨_, _, _, c4, _⟩ := F1.ci
  have f4 := F1.ln.fz 4
  have F2 := F1.setRd hbg
  have m2 := F2.must hbg hT [44]
  rw [hq] at m2
  go_wp2_with (fail)
  ((with_reducible refine m2.mono ?_); rintro e w2 ⟨rfl, F3⟩)
  clear m2 c4 f4 F1 F2
  obtain ⟨_, c2, _⟩ := F3.ci
  have fis := F3.is hbg [91]
  have ftk := F3.take hbg hT [61]
  obtain ⟨σ2, y2⟩ := q
  dsimp only at c2 fis ftk
  cases e1 : (y2.op != 25)
  · have h1 : ¬ y2.op ≠ 25 := by simpa using e1
    cases e2 : isS (tokA T σ2.i) [91]
    · have n2 : ¬ isS (tokA T σ2.i) [91] = true := by rw [e2]; decide
      rw [e2] at fis
      go_wp2_with (fail)
      ((with_reducible refine fis.mono ?_); rintro e w3 ⟨rfl, F4⟩)
      have ftk := F4.take hbg hT [61]
      clear fis c2
      dsimp only at ftk
      cases e3 : takeB T σ2 [61]
      · have n3 : ¬ takeB T σ2 [61] = true := by rw [e3]; decide
        rw [e3] at ftk
        have hg := HG.out
        unfold stLoads1 at hg
        rw [if_neg h1, if_neg n2, if_neg n3] at hg
        subst hg
        clear HG
        go_wp2_with (fail)
        ((with_reducible refine ftk.mono ?_); rintro e w4 ⟨rfl, F5⟩)
        clear ftk
        obtain ⟨a1, a2, a3, a4, a5, a6, a7, a8, a9, a10⟩ := F5.ci
        have fz := fun j => F5.ln.fz j
        have F6 := F5.setIns hbg 40
        go_wp2_with (fail)
        ((with_reducible refine (F6.reach hbg hT hT2).mono ?_); rintro e w5 ⟨rfl, F7⟩)
        go_wp2_with (fail)
        exact bodyPost_end (results_none rfl _ _ _) rfl ⟨rfl, F7⟩
      · rw [e3] at ftk
        have hg := HG.out
        unfold stLoads1 at hg
        rw [if_neg h1, if_neg n2, if_pos e3] at hg
        subst hg
        clear HG
        go_wp2_with (fail)
        ((with_reducible refine ftk.mono ?_); rintro e w4 ⟨rfl, F5⟩)
        clear ftk
        obtain ⟨a1, _⟩ := F5.ci
        have fz := fun j => F5.ln.fz j
        have F6 := F5.setK hbg 2
        obtain ⟨_, b2, b3, b4, b5, b6, b7, b8, b9, b10⟩ := F6.ci
        have fz6 := fun j => F6.ln.fz j
        have F7 := F6.setIns hbg 40
        go_wp2_with (fail)
        ((with_reducible refine (F7.term hbg hT hT2).mono ?_); rintro e w5 ⟨o, m, s, A', k, cap', rfl, F8, hx⟩)
        clear a1 fz b2 b3 b4 b5 b6 b7 b8 b9 b10 fz6
        obtain ⟨_, _, _, _, d15, d16, d17, d18⟩ := F8.ln.x4
        have fz8 := fun j => F8.ln.fz j
        have F9 := F8.setEx hbg hx F7.ln.lt
        go_wp2_with (fail)
        exact bodyPost_ret (results_none rfl _ _ _) rfl ⟨rfl, F9⟩
    · rw [e2] at fis
      have hg := HG.out
      unfold stLoads1 at hg
      rw [if_neg h1, if_pos e2] at hg
      subst hg
      clear HG
      go_wp2_with (fail)
      ((with_reducible refine fis.mono ?_); rintro e w3 ⟨rfl, F4⟩)
      clear fis c2
      go_wp2_with (fail)
      ((with_reducible refine (F4.acc hbg hT hT2).mono ?_); rintro e w4 ⟨rfl, F5⟩)
      go_wp2_with (fail)
      exact bodyPost_ret (results_none rfl _ _ _) rfl ⟨rfl, F5⟩
  · have h1 : y2.op ≠ 25 := by simpa using e1
    have hg := HG.out
    unfold stLoads1 at hg
    rw [if_pos h1] at hg
    subst hg
    clear HG fis ftk
    go_wp2_with (fail)
    ((with_reducible refine (F3.acc hbg hT hT2).mono ?_); rintro e w4 ⟨rfl, F5⟩)
    go_wp2_with (fail)
    exact bodyPost_ret (results_none rfl _ _ _) rfl ⟨rfl, F5⟩
end
end Go.Proofs.YtpdkpkabdkefcaaGreatDoor
namespace Go.Proofs.YtpdkpkabdkefcaaGreatDoor
open Go.Sx Go.ChangeShapes Go.WideShapes Go.RowKit Go.Joins Go.Deep Go.Rp
section
variable {w w0 : World} {b g : Nat} {A : Option Addr} {cap : Nat} {T : List Tok} {p : Fs}
theorem Fill.sRd (F : Fill T b g A cap w0 w (regT T p.1, p.2)) (hbg : b < g) : Fill T b g A cap w0 (w.setCell ⟨g, 4, none⟩ (.int .i64 (regV T p.1))) (stRd T p) := F.set hbg 4 _ rfl fun _ _ _ _ => rfl
theorem Fill.sRn (F : Fill T b g A cap w0 w (regT T p.1, p.2)) (hbg : b < g) : Fill T b g A cap w0 (w.setCell ⟨g, 5, none⟩ (.int .i64 (regV T p.1))) (stRn T p) := F.set hbg 5 _ rfl fun _ _ _ _ => rfl
theorem Fill.sRm (F : Fill T b g A cap w0 w (regT T p.1, p.2)) (hbg : b < g) : Fill T b g A cap w0 (w.setCell ⟨g, 6, none⟩ (.int .i64 (regV T p.1))) (stRm T p) := F.set hbg 6 _ rfl fun _ _ _ _ => rfl
theorem Fill.sEx (F : Fill T b g A cap w0 w (termT T p.1, p.2)) (hbg : b < g) {B : Nat} {x0 x1 x2 x3 : Value} (hx : ExAt w (fun q => B ≤ q ∧ q < w.heap.size) (termV T p.1) (.agg #[x0, x1, x2, x3])) (hB : g < B) :
    Fill T b g A cap w0 ((((w.setCell ⟨g, 15, none⟩ x0).setCell ⟨g, 16, none⟩ x1).setCell ⟨g, 17, none⟩ x2).setCell ⟨g, 18, none⟩ x3) (stTerm T p) := F.setEx hbg hx hB
set_option maxHeartbeats 4000000 in
theorem Fill.opsA1 (F : Fill T b g A cap w0 w p) (hbg : b < g) (hT : T.length ≤ 900000) (hT2 : ∀ t ∈ T, t.t.length ≤ 1000000000000) (u1 : decide (p.2.op ≤ 9) = true) :
    Calls Tryz.prog 112 #[.pointer (some ⟨b, 0, none⟩), .pointer (some ⟨g, 0, none⟩)] w (FillV T b g A cap w0 (.tuple #[]) (stA T p)) := by
  unfold FillV
  go_enter Tryz.func112, Tryz.ntmps112
  obtain ⟨a01, a02, a03, a04, a05, a06, a07, a08, a09, a010⟩ := F.ci
  have z0 := fun j => F.ln.fz j
  go_wp2_with (fail)
  clear a01 a02 a03 a04 a05 a06 a07 a08 a09 a010 z0
  ((with_reducible refine (F.reg hbg hT).mono ?_); rintro e w1 ⟨rfl, F1⟩)
  obtain ⟨a21, a22, a23, a24, a25, a26, a27, a28, a29, a210⟩ := F1.ci
  have z2 := fun j => F1.ln.fz j
  have F3 := F1.sRd hbg
  obtain ⟨a41, a42, a43, a44, a45, a46, a47, a48, a49, a410⟩ := F3.ci
  have z4 := fun j => F3.ln.fz j
  go_wp2_with (fail)
  clear a21 a22 a23 a24 a25 a26 a27 a28 a29 a210 z2 a41 a42 a43 a44 a45 a46 a47 a48 a49 a410 z4
  ((with_reducible refine (F3.must hbg hT [44]).mono ?_); rintro e w5 ⟨rfl, F5⟩)
  obtain ⟨a61, a62, a63, a64, a65, a66, a67, a68, a69, a610⟩ := F5.ci
  have z6 := fun j => F5.ln.fz j
  go_wp2_with (fail)
  clear a61 a62 a63 a64 a65 a66 a67 a68 a69 a610 z6
  ((with_reducible refine (F5.reg hbg hT).mono ?_); rintro e w7 ⟨rfl, F7⟩)
  obtain ⟨a81, a82, a83, a84, a85, a86, a87, a88, a89, a810⟩ := F7.ci
  have z8 := fun j => F7.ln.fz j
  have F9 := F7.sRn hbg
  obtain ⟨a101, a102, a103, a104, a105, a106, a107, a108, a109, a1010⟩ := F9.ci
  have z10 := fun j => F9.ln.fz j
  go_wp2_with (fail)
  clear a81 a82 a83 a84 a85 a86 a87 a88 a89 a810 z8 a101 a102 a103 a104 a105 a106 a107 a108 a109 a1010 z10
  ((with_reducible refine (F9.must hbg hT [44]).mono ?_); rintro e w11 ⟨rfl, F11⟩)
  obtain ⟨a121, a122, a123, a124, a125, a126, a127, a128, a129, a1210⟩ := F11.ci
  have z12 := fun j => F11.ln.fz j
  go_wp2_with (fail)
  clear a121 a122 a123 a124 a125 a126 a127 a128 a129 a1210 z12
  ((with_reducible refine (F11.last hbg hT hT2).mono ?_); rintro e w13 ⟨rfl, F13⟩)
  go_wp2_with (fail)
  exact bodyPost_end (results_none rfl _ _ _) rfl ⟨rfl, F13⟩
set_option maxHeartbeats 4000000 in
theorem Fill.opsA2 (F : Fill T b g A cap w0 w p) (hbg : b < g) (hT : T.length ≤ 900000) (hT2 : ∀ t ∈ T, t.t.length ≤ 1000000000000) (u1 : decide (p.2.op ≤ 9) = false) (u2 : decide (p.2.op ≥ 16) = true) (u3 : decide (p.2.op ≤ 19) = true) :
    Calls Tryz.prog 112 #[.pointer (some ⟨b, 0, none⟩), .pointer (some ⟨g, 0, none⟩)] w (FillV T b g A cap w0 (.tuple #[]) (stA T p)) := by
  unfold FillV
  go_enter Tryz.func112, Tryz.ntmps112
  obtain ⟨a01, a02, a03, a04, a05, a06, a07, a08, a09, a010⟩ := F.ci
  have z0 := fun j => F.ln.fz j
  go_wp2_with (fail)
  clear a01 a02 a03 a04 a05 a06 a07 a08 a09 a010 z0
  ((with_reducible refine (F.reg hbg hT).mono ?_); rintro e w1 ⟨rfl, F1⟩)
  obtain ⟨a21, a22, a23, a24, a25, a26, a27, a28, a29, a210⟩ := F1.ci
  have z2 := fun j => F1.ln.fz j
  have F3 := F1.sRd hbg
  obtain ⟨a41, a42, a43, a44, a45, a46, a47, a48, a49, a410⟩ := F3.ci
  have z4 := fun j => F3.ln.fz j
  go_wp2_with (fail)
  clear a21 a22 a23 a24 a25 a26 a27 a28 a29 a210 z2 a41 a42 a43 a44 a45 a46 a47 a48 a49 a410 z4
  ((with_reducible refine (F3.must hbg hT [44]).mono ?_); rintro e w5 ⟨rfl, F5⟩)
  obtain ⟨a61, a62, a63, a64, a65, a66, a67, a68, a69, a610⟩ := F5.ci
  have z6 := fun j => F5.ln.fz j
  go_wp2_with (fail)
  clear a61 a62 a63 a64 a65 a66 a67 a68 a69 a610 z6
  ((with_reducible refine (F5.reg hbg hT).mono ?_); rintro e w7 ⟨rfl, F7⟩)
  obtain ⟨a81, a82, a83, a84, a85, a86, a87, a88, a89, a810⟩ := F7.ci
  have z8 := fun j => F7.ln.fz j
  have F9 := F7.sRn hbg
  obtain ⟨a101, a102, a103, a104, a105, a106, a107, a108, a109, a1010⟩ := F9.ci
  have z10 := fun j => F9.ln.fz j
  go_wp2_with (fail)
  clear a81 a82 a83 a84 a85 a86 a87 a88 a89 a810 z8 a101 a102 a103 a104 a105 a106 a107 a108 a109 a1010 z10
  ((with_reducible refine (F9.must hbg hT [44]).mono ?_); rintro e w11 ⟨rfl, F11⟩)
  obtain ⟨a121, a122, a123, a124, a125, a126, a127, a128, a129, a1210⟩ := F11.ci
  have z12 := fun j => F11.ln.fz j
  go_wp2_with (fail)
  clear a121 a122 a123 a124 a125 a126 a127 a128 a129 a1210 z12
  ((with_reducible refine (F11.last hbg hT hT2).mono ?_); rintro e w13 ⟨rfl, F13⟩)
  go_wp2_with (fail)
  exact bodyPost_end (results_none rfl _ _ _) rfl ⟨rfl, F13⟩
set_option maxHeartbeats 4000000 in
theorem Fill.opsBa (F : Fill T b g A cap w0 w p) (hbg : b < g) (hT : T.length ≤ 900000) (hT2 : ∀ t ∈ T, t.t.length ≤ 1000000000000) (u1 : decide (p.2.op ≤ 9) = false) (u2 : decide (p.2.op ≥ 16) = false) (v1 : decide (p.2.op ≤ 11) = true) :
    Calls Tryz.prog 112 #[.pointer (some ⟨b, 0, none⟩), .pointer (some ⟨g, 0, none⟩)] w (FillV T b g A cap w0 (.tuple #[]) (stB T p)) := by
  unfold FillV
  go_enter Tryz.func112, Tryz.ntmps112
  obtain ⟨a01, a02, a03, a04, a05, a06, a07, a08, a09, a010⟩ := F.ci
  have z0 := fun j => F.ln.fz j
  go_wp2_with (fail)
  clear a01 a02 a03 a04 a05 a06 a07 a08 a09 a010 z0
  ((with_reducible refine (F.reg hbg hT).mono ?_); rintro e w1 ⟨rfl, F1⟩)
  obtain ⟨a21, a22, a23, a24, a25, a26, a27, a28, a29, a210⟩ := F1.ci
  have z2 := fun j => F1.ln.fz j
  have F3 := F1.sRd hbg
  obtain ⟨a41, a42, a43, a44, a45, a46, a47, a48, a49, a410⟩ := F3.ci
  have z4 := fun j => F3.ln.fz j
  go_wp2_with (fail)
  clear a21 a22 a23 a24 a25 a26 a27 a28 a29 a210 z2 a41 a42 a43 a44 a45 a46 a47 a48 a49 a410 z4
  ((with_reducible refine (F3.must hbg hT [44]).mono ?_); rintro e w5 ⟨rfl, F5⟩)
  obtain ⟨a61, a62, a63, a64, a65, a66, a67, a68, a69, a610⟩ := F5.ci
  have z6 := fun j => F5.ln.fz j
  go_wp2_with (fail)
  clear a61 a62 a63 a64 a65 a66 a67 a68 a69 a610 z6
  ((with_reducible refine (F5.last hbg hT hT2).mono ?_); rintro e w7 ⟨rfl, F7⟩)
  go_wp2_with (fail)
  exact bodyPost_end (results_none rfl _ _ _) rfl ⟨rfl, F7⟩
set_option maxHeartbeats 4000000 in
theorem Fill.opsCa (F : Fill T b g A cap w0 w p) (hbg : b < g) (hT : T.length ≤ 900000) (hT2 : ∀ t ∈ T, t.t.length ≤ 1000000000000) (u1 : decide (p.2.op ≤ 9) = false) (u2 : decide (p.2.op ≥ 16) = false) (v1 : decide (p.2.op ≤ 11) = false) (v2 : decide (p.2.op ≤ 15) = true) :
    Calls Tryz.prog 112 #[.pointer (some ⟨b, 0, none⟩), .pointer (some ⟨g, 0, none⟩)] w (FillV T b g A cap w0 (.tuple #[]) (stC T p)) := by
  unfold FillV
  go_enter Tryz.func112, Tryz.ntmps112
  obtain ⟨a01, a02, a03, a04, a05, a06, a07, a08, a09, a010⟩ := F.ci
  have z0 := fun j => F.ln.fz j
  go_wp2_with (fail)
  clear a01 a02 a03 a04 a05 a06 a07 a08 a09 a010 z0
  ((with_reducible refine (F.reg hbg hT).mono ?_); rintro e w1 ⟨rfl, F1⟩)
  obtain ⟨a21, a22, a23, a24, a25, a26, a27, a28, a29, a210⟩ := F1.ci
  have z2 := fun j => F1.ln.fz j
  have F3 := F1.sRn hbg
  obtain ⟨a41, a42, a43, a44, a45, a46, a47, a48, a49, a410⟩ := F3.ci
  have z4 := fun j => F3.ln.fz j
  go_wp2_with (fail)
  clear a21 a22 a23 a24 a25 a26 a27 a28 a29 a210 z2 a41 a42 a43 a44 a45 a46 a47 a48 a49 a410 z4
  ((with_reducible refine (F3.must hbg hT [44]).mono ?_); rintro e w5 ⟨rfl, F5⟩)
  obtain ⟨a61, a62, a63, a64, a65, a66, a67, a68, a69, a610⟩ := F5.ci
  have z6 := fun j => F5.ln.fz j
  go_wp2_with (fail)
  clear a61 a62 a63 a64 a65 a66 a67 a68 a69 a610 z6
  ((with_reducible refine (F5.last hbg hT hT2).mono ?_); rintro e w7 ⟨rfl, F7⟩)
  go_wp2_with (fail)
  exact bodyPost_end (results_none rfl _ _ _) rfl ⟨rfl, F7⟩
set_option maxHeartbeats 4000000 in
theorem Fill.opsD (F : Fill T b g A cap w0 w p) (hbg : b < g) (hT : T.length ≤ 900000) (_hT2 : ∀ t ∈ T, t.t.length ≤ 1000000000000) (u1 : decide (p.2.op ≤ 9) = false) (u2 : decide (p.2.op ≥ 16) = true) (u3 : decide (p.2.op ≤ 19) = false) (v1 : decide (p.2.op ≤ 11) = false) (v2 : decide (p.2.op ≤ 15) = false) (v3 : decide (p.2.op ≤ 22) = true) :
    Calls Tryz.prog 112 #[.pointer (some ⟨b, 0, none⟩), .pointer (some ⟨g, 0, none⟩)] w (FillV T b g A cap w0 (.tuple #[]) (stD T p)) := by
  unfold FillV
  go_enter Tryz.func112, Tryz.ntmps112
  obtain ⟨a01, a02, a03, a04, a05, a06, a07, a08, a09, a010⟩ := F.ci
  have z0 := fun j => F.ln.fz j
  go_wp2_with (fail)
  clear a01 a02 a03 a04 a05 a06 a07 a08 a09 a010 z0
  ((with_reducible refine (F.reg hbg hT).mono ?_); rintro e w1 ⟨rfl, F1⟩)
  obtain ⟨a21, a22, a23, a24, a25, a26, a27, a28, a29, a210⟩ := F1.ci
  have z2 := fun j => F1.ln.fz j
  have F3 := F1.sRd hbg
  obtain ⟨a41, a42, a43, a44, a45, a46, a47, a48, a49, a410⟩ := F3.ci
  have z4 := fun j => F3.ln.fz j
  go_wp2_with (fail)
  clear a21 a22 a23 a24 a25 a26 a27 a28 a29 a210 z2 a41 a42 a43 a44 a45 a46 a47 a48 a49 a410 z4
  ((with_reducible refine (F3.must hbg hT [44]).mono ?_); rintro e w5 ⟨rfl, F5⟩)
  obtain ⟨a61, a62, a63, a64, a65, a66, a67, a68, a69, a610⟩ := F5.ci
  have z6 := fun j => F5.ln.fz j
  go_wp2_with (fail)
  clear a61 a62 a63 a64 a65 a66 a67 a68 a69 a610 z6
  ((with_reducible refine (F5.reg hbg hT).mono ?_); rintro e w7 ⟨rfl, F7⟩)
  obtain ⟨a81, a82, a83, a84, a85, a86, a87, a88, a89, a810⟩ := F7.ci
  have z8 := fun j => F7.ln.fz j
  have F9 := F7.sRn hbg
  obtain ⟨a101, a102, a103, a104, a105, a106, a107, a108, a109, a1010⟩ := F9.ci
  have z10 := fun j => F9.ln.fz j
  go_wp2_with (fail)
  clear a81 a82 a83 a84 a85 a86 a87 a88 a89 a810 z8 a101 a102 a103 a104 a105 a106 a107 a108 a109 a1010 z10
  ((with_reducible refine (F9.must hbg hT [44]).mono ?_); rintro e w11 ⟨rfl, F11⟩)
  obtain ⟨a121, a122, a123, a124, a125, a126, a127, a128, a129, a1210⟩ := F11.ci
  have z12 := fun j => F11.ln.fz j
  have F13 := F11.setMd hbg 2
  obtain ⟨a141, a142, a143, a144, a145, a146, a147, a148, a149, a1410⟩ := F13.ci
  have z14 := fun j => F13.ln.fz j
  go_wp2_with (fail)
  clear a121 a122 a123 a124 a125 a126 a127 a128 a129 a1210 z12 a141 a142 a143 a144 a145 a146 a147 a148 a149 a1410 z14
  ((with_reducible refine (F13.reg hbg hT).mono ?_); rintro e w15 ⟨rfl, F15⟩)
  obtain ⟨a161, a162, a163, a164, a165, a166, a167, a168, a169, a1610⟩ := F15.ci
  have z16 := fun j => F15.ln.fz j
  have F17 := F15.sRm hbg
  obtain ⟨a181, a182, a183, a184, a185, a186, a187, a188, a189, a1810⟩ := F17.ci
  have z18 := fun j => F17.ln.fz j
  go_wp2_with (fail)
  clear a161 a162 a163 a164 a165 a166 a167 a168 a169 a1610 z16 a181 a182 a183 a184 a185 a186 a187 a188 a189 a1810 z18
  exact bodyPost_end (results_none rfl _ _ _) rfl ⟨rfl, F17⟩
set_option maxHeartbeats 4000000 in
theorem Fill.opsE (F : Fill T b g A cap w0 w p) (hbg : b < g) (hT : T.length ≤ 900000) (hT2 : ∀ t ∈ T, t.t.length ≤ 1000000000000) (u1 : decide (p.2.op ≤ 9) = false) (u2 : decide (p.2.op ≥ 16) = true) (u3 : decide (p.2.op ≤ 19) = false) (v1 : decide (p.2.op ≤ 11) = false) (v2 : decide (p.2.op ≤ 15) = false) (v3 : decide (p.2.op ≤ 22) = false) (v4 : decide (p.2.op ≤ 24) = true) :
    Calls Tryz.prog 112 #[.pointer (some ⟨b, 0, none⟩), .pointer (some ⟨g, 0, none⟩)] w (FillV T b g A cap w0 (.tuple #[]) (stE T p)) := by
  unfold FillV
  go_enter Tryz.func112, Tryz.ntmps112
  obtain ⟨a01, a02, a03, a04, a05, a06, a07, a08, a09, a010⟩ := F.ci
  have z0 := fun j => F.ln.fz j
  go_wp2_with (fail)
  clear a01 a02 a03 a04 a05 a06 a07 a08 a09 a010 z0
  ((with_reducible refine (F.reg hbg hT).mono ?_); rintro e w1 ⟨rfl, F1⟩)
  obtain ⟨a21, a22, a23, a24, a25, a26, a27, a28, a29, a210⟩ := F1.ci
  have z2 := fun j => F1.ln.fz j
  have F3 := F1.sRd hbg
  obtain ⟨a41, a42, a43, a44, a45, a46, a47, a48, a49, a410⟩ := F3.ci
  have z4 := fun j => F3.ln.fz j
  go_wp2_with (fail)
  clear a21 a22 a23 a24 a25 a26 a27 a28 a29 a210 z2 a41 a42 a43 a44 a45 a46 a47 a48 a49 a410 z4
  ((with_reducible refine (F3.must hbg hT [44]).mono ?_); rintro e w5 ⟨rfl, F5⟩)
  obtain ⟨a61, a62, a63, a64, a65, a66, a67, a68, a69, a610⟩ := F5.ci
  have z6 := fun j => F5.ln.fz j
  have F7 := F5.setMd hbg 1
  obtain ⟨a81, a82, a83, a84, a85, a86, a87, a88, a89, a810⟩ := F7.ci
  have z8 := fun j => F7.ln.fz j
  go_wp2_with (fail)
  clear a61 a62 a63 a64 a65 a66 a67 a68 a69 a610 z6 a81 a82 a83 a84 a85 a86 a87 a88 a89 a810 z8
  ((with_reducible refine (F7.must hbg hT [35]).mono ?_); rintro e w9 ⟨rfl, F9⟩)
  obtain ⟨a101, a102, a103, a104, a105, a106, a107, a108, a109, a1010⟩ := F9.ci
  have z10 := fun j => F9.ln.fz j
  go_wp2_with (fail)
  clear a101 a102 a103 a104 a105 a106 a107 a108 a109 a1010 z10
  ((with_reducible refine (F9.term hbg hT hT2).mono ?_); rintro e w11 ⟨o, m, s, A', k, cap', rfl, F11, hx⟩)
  obtain ⟨_, _, _, _, d15, d16, d17, d18⟩ := F11.ln.x4
  have z11 := fun j => F11.ln.fz j
  have F12 := F11.sEx hbg hx F9.ln.lt
  go_wp2_with (fail)
  clear d15 d16 d17 d18 z11
  exact bodyPost_end (results_none rfl _ _ _) rfl ⟨rfl, F12⟩
set_option maxHeartbeats 4000000 in
theorem Fill.opsF (F : Fill T b g A cap w0 w p) (hbg : b < g) (hT : T.length ≤ 900000) (hT2 : ∀ t ∈ T, t.t.length ≤ 1000000000000) (u1 : decide (p.2.op ≤ 9) = false) (u2 : decide (p.2.op ≥ 16) = true) (u3 : decide (p.2.op ≤ 19) = false) (v1 : decide (p.2.op ≤ 11) = false) (v2 : decide (p.2.op ≤ 15) = false) (v3 : decide (p.2.op ≤ 22) = false) (v4 : decide (p.2.op ≤ 24) = false) (v5 : decide (p.2.op ≤ 30) = true) :
    Calls Tryz.prog 112 #[.pointer (some ⟨b, 0, none⟩), .pointer (some ⟨g, 0, none⟩)] w (FillV T b g A cap w0 (.tuple #[]) (stLoads T p)) := by
  unfold FillV
  go_enter Tryz.func112, Tryz.ntmps112
  obtain ⟨a01, a02, a03, a04, a05, a06, a07, a08, a09, a010⟩ := F.ci
  have z0 := fun j => F.ln.fz j
  go_wp2_with (fail)
  clear a01 a02 a03 a04 a05 a06 a07 a08 a09 a010 z0
  ((with_reducible refine (F.loads hbg hT hT2).mono ?_); rintro e w1 ⟨rfl, F1⟩)
  go_wp2_with (fail)
  exact bodyPost_end (results_none rfl _ _ _) rfl ⟨rfl, F1⟩
end
end Go.Proofs.YtpdkpkabdkefcaaGreatDoor
namespace Go.Proofs.YtpdkpkabdkefcaaGreatDoor
open Go.Sx Go.ChangeShapes Go.WideShapes Go.RowKit Go.Joins Go.Deep Go.Rp
section
variable {w w0 : World} {b g : Nat} {A : Option Addr} {cap : Nat} {T : List Tok} {p : Fs} {σ : Rs}
def posOf (w : World) (b : Nat) : Nat := match w.cell? ⟨b, 1, none⟩ with | some (.int _ i) => i.toNat | _ => 0
theorem posOf_eq (h : RdS w b A cap T σ) : posOf w b = σ.i := by
  unfold posOf
  rw [h.c1]
  simp
theorem k_meas {K : Int} (h0 : 0 ≤ K) (h1 : K ≤ 15) : (16 - intOf (Value.int IntKind.i64 (K + 1))).toNat < (16 - intOf (Value.int IntKind.i64 K)).toNat := by
  simp [intOf]; omega
theorem ls_meas0 {wr w8 : World} {τ τ' : Rs} (h : posOf wr b = τ.i) (h8 : posOf w8 b = τ'.i) (hle : τ.i ≤ τ'.i) (hi : τ'.In T) :
    2 * (T.length + 1 - posOf w8 b) + (match Value.bool false with | .bool true => 1 | _ => 0) < 2 * (T.length + 1 - posOf wr b) + (match Value.bool true with | .bool true => 1 | _ => 0) := by
  have : τ'.i ≤ T.length := hi
  rw [h, h8]
  show 2 * (T.length + 1 - τ'.i) + 0 < 2 * (T.length + 1 - τ.i) + 1
  omega
theorem ls_meas1 {wr w8 : World} {τ τ' : Rs} (h : posOf wr b = τ.i) (h8 : posOf w8 b = τ'.i) (hlt : τ.i < τ'.i) (hi : τ'.In T) :
    2 * (T.length + 1 - posOf w8 b) + (match Value.bool true with | .bool true => 1 | _ => 0) < 2 * (T.length + 1 - posOf wr b) + (match Value.bool true with | .bool true => 1 | _ => 0) := by
  have : τ'.i ≤ T.length := hi
  rw [h, h8]
  show 2 * (T.length + 1 - τ'.i) + 1 < 2 * (T.length + 1 - τ.i) + 1
  omega
set_option maxHeartbeats 4000000 in
theorem list18 (hr : RdS w b A cap T σ) (hi : σ.In T) (hT : T.length ≤ 900000) :
    Calls Tryz.prog 175 #[.pointer (some ⟨b, 0, none⟩)] w fun e w' => e = .returned (.int .i64 (listV T σ)) ∧ RdS w' b A cap T (listT T σ) ∧ (listT T σ).In T ∧ Stay b w w' := by
  have hle : ∀ τ : Rs, τ.In T → τ.i ≤ 1000000 := fun τ h => by have : τ.i ≤ T.length := h; omega
  have m1 := must18 hr (hle _ hi) [123]
  have hi1 := mustT_in hi [123]
  unfold listV listT
  generalize hX : listX T σ = X
  unfold listX at hX
  generalize mustT T σ [123] = τ1 at m1 hi1 hX
  have HX := Lib.hid hX
  clear hX hr
  go_enter Tryz.func175, Tryz.ntmps175
  go_wp2_with (fail)
  ((with_reducible refine m1.mono ?_); rintro e w1 ⟨rfl, h1, s1⟩)
  clear m1
  go_wp2_with (fail)
  go_loopw [3, 4, 5] (fun l v m wr => ∃ (L wz : Int) (mo : Bool) (n : Nat) (τ : Rs), l = .int .i64 L ∧ v = .int .i64 wz ∧ m = .bool mo ∧ τ.In T ∧ RdS wr b A cap T τ ∧ Stay b w wr ∧ Hid (listF T n mo τ wz L = X) ∧ (mo = true → T.length + 1 ≤ n + τ.i)) (fun _ _ m wr => 2 * (T.length + 1 - posOf wr b) + (match m with | .bool true => 1 | _ => 0))
  case atStart => exact ⟨0, -1, true, T.length + 1, τ1, rfl, rfl, rfl, hi1, h1, s1, HX, fun _ => by omega⟩
  case round =>
    obtain ⟨L, wz, mo, n, τ, rfl, rfl, rfl, hτ, hrd, hst, HF, hn⟩ := hrel
    clear HX h1 s1 hi1
    have c2 := hrd.c2
    have hexit : (mo = false ∨ τ.e ≠ 0) → X = (τ, L) := fun h => by
      have := HF.out
      cases n with
      | zero => exact this.symm
      | succ n =>
        unfold listF at this
        rw [if_neg (by rintro ⟨h1, h2⟩; rcases h with h | h; · rw [h] at h1; cases h1
                       · exact h h2)] at this
        exact this.symm
    cases mo
    · obtain rfl := hexit (.inl rfl)
      clear HF hexit hn
      go_wp2_with (fail)
      ((with_reducible refine (must18 hrd (hle _ hτ) [125]).mono ?_); rintro e w9 ⟨rfl, h9, s9⟩)
      go_wp2_with (fail)
      exact bodyPost_ret (results_tmp rfl _ _ _) rfl ⟨rfl, h9, mustT_in hτ _, hst.trans s9⟩
    cases e0 : (τ.e == 0)
    · obtain rfl := hexit (.inr (by simpa using e0))
      clear HF hexit hn
      go_wp2_with (fail)
      ((with_reducible refine (must18 hrd (hle _ hτ) [125]).mono ?_); rintro e w9 ⟨rfl, h9, s9⟩)
      go_wp2_with (fail)
      exact bodyPost_ret (results_tmp rfl _ _ _) rfl ⟨rfl, h9, mustT_in hτ _, hst.trans s9⟩
    · have hn1 := hn rfl
      have hτ0 : τ.i ≤ T.length := hτ
      obtain ⟨n, rfl⟩ : ∃ n', n = n' + 1 := ⟨n - 1, by omega⟩
      have hF := HF.out
      unfold listF at hF
      rw [if_pos ⟨rfl, by simpa using e0⟩] at hF
      have HG := Lib.hid hF
      clear hF HF hexit hn
      have hpos := posOf_eq hrd
      go_wp2_with (fail)
      ((with_reducible refine (reg18 hrd (hle _ hτ)).mono ?_); rintro e w2 ⟨rfl, h2, s2⟩)
      have hia := regT_in (T := T) hτ
      go_wp2_with (fail)
      have t3 := take18 h2 (hle _ hia) [45]
      clear c2
      cases e1 : takeB T (regT T τ) [45]
      · rw [e1] at t3
        have hE : lsEnd T τ = (takeT T (regT T τ) [45], regV T τ) := by unfold lsEnd; rw [if_neg (by rw [e1]; decide)]
        have hE2 : (lsEnd T τ).2 = regV T τ := by rw [hE]
        ((with_reducible refine t3.mono ?_); rintro e w3 ⟨rfl, h3, s3⟩)
        clear t3
        cases e2 : decide (regV T τ ≤ wz)
        · have hW : lsWas T τ wz = takeT T (regT T τ) [45] := by unfold lsWas; rw [if_neg (of_decide_eq_false e2), hE]
          go_wp2_with (fail)
          have HB := Lib.hid (show orBits ((lsEnd T τ).2 + 1 - regV T τ).toNat (regV T τ) L = lsBits T τ L from rfl)
          have hbd := regV_bd T τ
          have hbB := regV_bd T (takeT T (regT T τ) [45])
          rw [hE2] at HB
          go_loopw [3, 8] (fun l k wr => ∃ (K L' : Int), k = .int .i64 K ∧ l = .int .i64 L' ∧ 0 ≤ K ∧ K ≤ 16 ∧ Hid (orBits (regV T τ + 1 - K).toNat K L' = lsBits T τ L) ∧ wr = w3) (fun _ k _ => (16 - intOf k).toNat)
          case atStart => exact ⟨_, _, rfl, rfl, hbd.1, by omega, HB, rfl⟩
          case round =>
            obtain ⟨K, L', rfl, rfl, hK0, hK, HK, rfl⟩ := hrel
            clear HB
            have hKe := HK.out
            clear HK
            cases k0 : decide (K ≤ regV T τ)
            · have hz : (regV T τ + 1 - K).toNat = 0 := by have := of_decide_eq_false k0; omega
              rw [hz] at hKe
              unfold orBits at hKe
              subst hKe
              have mt := take18 (hW ▸ h3) (hle _ (lsWas_in hτ wz)) [44]
              go_wp2_with (fail)
              cases e9 : takeB T (lsWas T τ wz) [44]
              · rw [e9] at mt
                ((with_reducible refine mt.mono ?_); rintro e w8 ⟨rfl, h8, s8⟩)
                go_wp2_with (fail)
                refine ⟨⟨_, _, _, n, _, rfl, rfl, rfl, takeT_in (lsWas_in hτ wz) _, h8, (hst.trans (s2.trans s3)).trans s8, ?_, fun h => by cases h⟩, ?_⟩
                · have hG := HG.out
                  rw [e9, hE2] at hG
                  exact Lib.hid hG
                · have q1 := posOf_eq h8
                  have q2 := takeT_i T (lsWas T τ wz) [44]
                  have q3 := lsWas_i T τ wz
                  have q4 : (takeT T (lsWas T τ wz) [44]).In T := takeT_in (lsWas_in hτ wz) _
                  exact ls_meas0 hpos q1 (Nat.le_trans q3 q2) q4
              · rw [e9] at mt
                ((with_reducible refine mt.mono ?_); rintro e w8 ⟨rfl, h8, s8⟩)
                go_wp2_with (fail)
                have q2 := takeT_i1 e9
                have q3 := lsWas_i T τ wz
                have q4 : (takeT T (lsWas T τ wz) [44]).In T := takeT_in (lsWas_in hτ wz) _
                refine ⟨⟨_, _, _, n, _, rfl, rfl, rfl, q4, h8, (hst.trans (s2.trans s3)).trans s8, ?_, fun _ => by omega⟩, ?_⟩
                · have hG := HG.out
                  rw [e9, hE2] at hG
                  exact Lib.hid hG
                · exact ls_meas1 hpos (posOf_eq h8) (by omega) q4
            · have hz : (regV T τ + 1 - K).toNat = (regV T τ + 1 - (K + 1)).toNat + 1 := by have := of_decide_eq_true k0; omega
              rw [hz] at hKe
              unfold orBits at hKe
              have hK1 : K ≤ 15 := by have := of_decide_eq_true k0; omega
              have HKe := Lib.hid hKe
              clear hKe
              go_wp2_with (fail)
              exact ⟨⟨_, _, rfl, rfl, by omega, by omega, HKe, trivial⟩, k_meas hK0 hK1⟩
        · have hW : lsWas T τ wz = badS (takeT T (regT T τ) [45]) 3 := by unfold lsWas; rw [if_pos (of_decide_eq_true e2), hE]
          go_wp2_with (fail)
          ((with_reducible refine (bad18 h3 3).mono ?_); rintro e w4 ⟨rfl, h4, s4⟩)
          go_wp2_with (fail)
          have HB := Lib.hid (show orBits ((lsEnd T τ).2 + 1 - regV T τ).toNat (regV T τ) L = lsBits T τ L from rfl)
          have hbd := regV_bd T τ
          have hbB := regV_bd T (takeT T (regT T τ) [45])
          rw [hE2] at HB
          go_loopw [3, 8] (fun l k wr => ∃ (K L' : Int), k = .int .i64 K ∧ l = .int .i64 L' ∧ 0 ≤ K ∧ K ≤ 16 ∧ Hid (orBits (regV T τ + 1 - K).toNat K L' = lsBits T τ L) ∧ wr = w4) (fun _ k _ => (16 - intOf k).toNat)
          case atStart => exact ⟨_, _, rfl, rfl, hbd.1, by omega, HB, rfl⟩
          case round =>
            obtain ⟨K, L', rfl, rfl, hK0, hK, HK, rfl⟩ := hrel
            clear HB
            have hKe := HK.out
            clear HK
            cases k0 : decide (K ≤ regV T τ)
            · have hz : (regV T τ + 1 - K).toNat = 0 := by have := of_decide_eq_false k0; omega
              rw [hz] at hKe
              unfold orBits at hKe
              subst hKe
              have mt := take18 (hW ▸ h4) (hle _ (lsWas_in hτ wz)) [44]
              go_wp2_with (fail)
              cases e9 : takeB T (lsWas T τ wz) [44]
              · rw [e9] at mt
                ((with_reducible refine mt.mono ?_); rintro e w8 ⟨rfl, h8, s8⟩)
                go_wp2_with (fail)
                refine ⟨⟨_, _, _, n, _, rfl, rfl, rfl, takeT_in (lsWas_in hτ wz) _, h8, (hst.trans (s2.trans (s3.trans s4))).trans s8, ?_, fun h => by cases h⟩, ?_⟩
                · have hG := HG.out
                  rw [e9, hE2] at hG
                  exact Lib.hid hG
                · have q1 := posOf_eq h8
                  have q2 := takeT_i T (lsWas T τ wz) [44]
                  have q3 := lsWas_i T τ wz
                  have q4 : (takeT T (lsWas T τ wz) [44]).In T := takeT_in (lsWas_in hτ wz) _
                  exact ls_meas0 hpos q1 (Nat.le_trans q3 q2) q4
              · rw [e9] at mt
                ((with_reducible refine mt.mono ?_); rintro e w8 ⟨rfl, h8, s8⟩)
                go_wp2_with (fail)
                have q2 := takeT_i1 e9
                have q3 := lsWas_i T τ wz
                have q4 : (takeT T (lsWas T τ wz) [44]).In T := takeT_in (lsWas_in hτ wz) _
                refine ⟨⟨_, _, _, n, _, rfl, rfl, rfl, q4, h8, (hst.trans (s2.trans (s3.trans s4))).trans s8, ?_, fun _ => by omega⟩, ?_⟩
                · have hG := HG.out
                  rw [e9, hE2] at hG
                  exact Lib.hid hG
                · exact ls_meas1 hpos (posOf_eq h8) (by omega) q4
            · have hz : (regV T τ + 1 - K).toNat = (regV T τ + 1 - (K + 1)).toNat + 1 := by have := of_decide_eq_true k0; omega
              rw [hz] at hKe
              unfold orBits at hKe
              have hK1 : K ≤ 15 := by have := of_decide_eq_true k0; omega
              have HKe := Lib.hid hKe
              clear hKe
              go_wp2_with (fail)
              exact ⟨⟨_, _, rfl, rfl, by omega, by omega, HKe, trivial⟩, k_meas hK0 hK1⟩
      · rw [e1] at t3
        have hib : (takeT T (regT T τ) [45]).In T := takeT_in hia _
        ((with_reducible refine t3.mono ?_); rintro e w3 ⟨rfl, h3, s3⟩)
        clear t3
        go_wp2_with (fail)
        ((with_reducible refine (reg18 h3 (hle _ hib)).mono ?_); rintro e w4 ⟨rfl, h4, s4⟩)
        cases e3 : decide (regV T (takeT T (regT T τ) [45]) ≤ regV T τ)
        · have hE : lsEnd T τ = (regT T (takeT T (regT T τ) [45]), regV T (takeT T (regT T τ) [45])) := by unfold lsEnd; rw [if_pos e1, if_neg (of_decide_eq_false e3)]
          have hE2 : (lsEnd T τ).2 = regV T (takeT T (regT T τ) [45]) := by rw [hE]
          cases e2 : decide (regV T τ ≤ wz)
          · have hW : lsWas T τ wz = regT T (takeT T (regT T τ) [45]) := by unfold lsWas; rw [if_neg (of_decide_eq_false e2), hE]
            go_wp2_with (fail)
            have HB := Lib.hid (show orBits ((lsEnd T τ).2 + 1 - regV T τ).toNat (regV T τ) L = lsBits T τ L from rfl)
            have hbd := regV_bd T τ
            have hbB := regV_bd T (takeT T (regT T τ) [45])
            rw [hE2] at HB
            go_loopw [3, 8] (fun l k wr => ∃ (K L' : Int), k = .int .i64 K ∧ l = .int .i64 L' ∧ 0 ≤ K ∧ K ≤ 16 ∧ Hid (orBits (regV T (takeT T (regT T τ) [45]) + 1 - K).toNat K L' = lsBits T τ L) ∧ wr = w4) (fun _ k _ => (16 - intOf k).toNat)
            case atStart => exact ⟨_, _, rfl, rfl, hbd.1, by omega, HB, rfl⟩
            case round =>
              obtain ⟨K, L', rfl, rfl, hK0, hK, HK, rfl⟩ := hrel
              clear HB
              have hKe := HK.out
              clear HK
              cases k0 : decide (K ≤ regV T (takeT T (regT T τ) [45]))
              · have hz : (regV T (takeT T (regT T τ) [45]) + 1 - K).toNat = 0 := by have := of_decide_eq_false k0; omega
                rw [hz] at hKe
                unfold orBits at hKe
                subst hKe
                have mt := take18 (hW ▸ h4) (hle _ (lsWas_in hτ wz)) [44]
                go_wp2_with (fail)
                cases e9 : takeB T (lsWas T τ wz) [44]
                · rw [e9] at mt
                  ((with_reducible refine mt.mono ?_); rintro e w8 ⟨rfl, h8, s8⟩)
                  go_wp2_with (fail)
                  refine ⟨⟨_, _, _, n, _, rfl, rfl, rfl, takeT_in (lsWas_in hτ wz) _, h8, (hst.trans (s2.trans (s3.trans s4))).trans s8, ?_, fun h => by cases h⟩, ?_⟩
                  · have hG := HG.out
                    rw [e9, hE2] at hG
                    exact Lib.hid hG
                  · have q1 := posOf_eq h8
                    have q2 := takeT_i T (lsWas T τ wz) [44]
                    have q3 := lsWas_i T τ wz
                    have q4 : (takeT T (lsWas T τ wz) [44]).In T := takeT_in (lsWas_in hτ wz) _
                    exact ls_meas0 hpos q1 (Nat.le_trans q3 q2) q4
                · rw [e9] at mt
                  ((with_reducible refine mt.mono ?_); rintro e w8 ⟨rfl, h8, s8⟩)
                  go_wp2_with (fail)
                  have q2 := takeT_i1 e9
                  have q3 := lsWas_i T τ wz
                  have q4 : (takeT T (lsWas T τ wz) [44]).In T := takeT_in (lsWas_in hτ wz) _
                  refine ⟨⟨_, _, _, n, _, rfl, rfl, rfl, q4, h8, (hst.trans (s2.trans (s3.trans s4))).trans s8, ?_, fun _ => by omega⟩, ?_⟩
                  · have hG := HG.out
                    rw [e9, hE2] at hG
                    exact Lib.hid hG
                  · exact ls_meas1 hpos (posOf_eq h8) (by omega) q4
              · have hz : (regV T (takeT T (regT T τ) [45]) + 1 - K).toNat = (regV T (takeT T (regT T τ) [45]) + 1 - (K + 1)).toNat + 1 := by have := of_decide_eq_true k0; omega
                rw [hz] at hKe
                unfold orBits at hKe
                have hK1 : K ≤ 15 := by have := of_decide_eq_true k0; omega
                have HKe := Lib.hid hKe
                clear hKe
                go_wp2_with (fail)
                exact ⟨⟨_, _, rfl, rfl, by omega, by omega, HKe, trivial⟩, k_meas hK0 hK1⟩
          · have hW : lsWas T τ wz = badS (regT T (takeT T (regT T τ) [45])) 3 := by unfold lsWas; rw [if_pos (of_decide_eq_true e2), hE]
            go_wp2_with (fail)
            ((with_reducible refine (bad18 h4 3).mono ?_); rintro e w5 ⟨rfl, h5, s5⟩)
            go_wp2_with (fail)
            have HB := Lib.hid (show orBits ((lsEnd T τ).2 + 1 - regV T τ).toNat (regV T τ) L = lsBits T τ L from rfl)
            have hbd := regV_bd T τ
            have hbB := regV_bd T (takeT T (regT T τ) [45])
            rw [hE2] at HB
            go_loopw [3, 8] (fun l k wr => ∃ (K L' : Int), k = .int .i64 K ∧ l = .int .i64 L' ∧ 0 ≤ K ∧ K ≤ 16 ∧ Hid (orBits (regV T (takeT T (regT T τ) [45]) + 1 - K).toNat K L' = lsBits T τ L) ∧ wr = w5) (fun _ k _ => (16 - intOf k).toNat)
            case atStart => exact ⟨_, _, rfl, rfl, hbd.1, by omega, HB, rfl⟩
            case round =>
              obtain ⟨K, L', rfl, rfl, hK0, hK, HK, rfl⟩ := hrel
              clear HB
              have hKe := HK.out
              clear HK
              cases k0 : decide (K ≤ regV T (takeT T (regT T τ) [45]))
              · have hz : (regV T (takeT T (regT T τ) [45]) + 1 - K).toNat = 0 := by have := of_decide_eq_false k0; omega
                rw [hz] at hKe
                unfold orBits at hKe
                subst hKe
                have mt := take18 (hW ▸ h5) (hle _ (lsWas_in hτ wz)) [44]
                go_wp2_with (fail)
                cases e9 : takeB T (lsWas T τ wz) [44]
                · rw [e9] at mt
                  ((with_reducible refine mt.mono ?_); rintro e w8 ⟨rfl, h8, s8⟩)
                  go_wp2_with (fail)
                  refine ⟨⟨_, _, _, n, _, rfl, rfl, rfl, takeT_in (lsWas_in hτ wz) _, h8, (hst.trans (s2.trans (s3.trans (s4.trans s5)))).trans s8, ?_, fun h => by cases h⟩, ?_⟩
                  · have hG := HG.out
                    rw [e9, hE2] at hG
                    exact Lib.hid hG
                  · have q1 := posOf_eq h8
                    have q2 := takeT_i T (lsWas T τ wz) [44]
                    have q3 := lsWas_i T τ wz
                    have q4 : (takeT T (lsWas T τ wz) [44]).In T := takeT_in (lsWas_in hτ wz) _
                    exact ls_meas0 hpos q1 (Nat.le_trans q3 q2) q4
                · rw [e9] at mt
                  ((with_reducible refine mt.mono ?_); rintro e w8 ⟨rfl, h8, s8⟩)
                  go_wp2_with (fail)
                  have q2 := takeT_i1 e9
                  have q3 := lsWas_i T τ wz
                  have q4 : (takeT T (lsWas T τ wz) [44]).In T := takeT_in (lsWas_in hτ wz) _
                  refine ⟨⟨_, _, _, n, _, rfl, rfl, rfl, q4, h8, (hst.trans (s2.trans (s3.trans (s4.trans s5)))).trans s8, ?_, fun _ => by omega⟩, ?_⟩
                  · have hG := HG.out
                    rw [e9, hE2] at hG
                    exact Lib.hid hG
                  · exact ls_meas1 hpos (posOf_eq h8) (by omega) q4
              · have hz : (regV T (takeT T (regT T τ) [45]) + 1 - K).toNat = (regV T (takeT T (regT T τ) [45]) + 1 - (K + 1)).toNat + 1 := by have := of_decide_eq_true k0; omega
                rw [hz] at hKe
                unfold orBits at hKe
                have hK1 : K ≤ 15 := by have := of_decide_eq_true k0; omega
                have HKe := Lib.hid hKe
                clear hKe
                go_wp2_with (fail)
                exact ⟨⟨_, _, rfl, rfl, by omega, by omega, HKe, trivial⟩, k_meas hK0 hK1⟩
        · have hE : lsEnd T τ = (badS (regT T (takeT T (regT T τ) [45])) 3, regV T (takeT T (regT T τ) [45])) := by unfold lsEnd; rw [if_pos e1, if_pos (of_decide_eq_true e3)]
          have hE2 : (lsEnd T τ).2 = regV T (takeT T (regT T τ) [45]) := by rw [hE]
          go_wp2_with (fail)
          ((with_reducible refine (bad18 h4 3).mono ?_); rintro e w5 ⟨rfl, h5, s5⟩)
          cases e2 : decide (regV T τ ≤ wz)
          · have hW : lsWas T τ wz = badS (regT T (takeT T (regT T τ) [45])) 3 := by unfold lsWas; rw [if_neg (of_decide_eq_false e2), hE]
            go_wp2_with (fail)
            have HB := Lib.hid (show orBits ((lsEnd T τ).2 + 1 - regV T τ).toNat (regV T τ) L = lsBits T τ L from rfl)
            have hbd := regV_bd T τ
            have hbB := regV_bd T (takeT T (regT T τ) [45])
            rw [hE2] at HB
            go_loopw [3, 8] (fun l k wr => ∃ (K L' : Int), k = .int .i64 K ∧ l = .int .i64 L' ∧ 0 ≤ K ∧ K ≤ 16 ∧ Hid (orBits (regV T (takeT T (regT T τ) [45]) + 1 - K).toNat K L' = lsBits T τ L) ∧ wr = w5) (fun _ k _ => (16 - intOf k).toNat)
            case atStart => exact ⟨_, _, rfl, rfl, hbd.1, by omega, HB, rfl⟩
            case round =>
              obtain ⟨K, L', rfl, rfl, hK0, hK, HK, rfl⟩ := hrel
              clear HB
              have hKe := HK.out
              clear HK
              cases k0 : decide (K ≤ regV T (takeT T (regT T τ) [45]))
              · have hz : (regV T (takeT T (regT T τ) [45]) + 1 - K).toNat = 0 := by have := of_decide_eq_false k0; omega
                rw [hz] at hKe
                unfold orBits at hKe
                subst hKe
                have mt := take18 (hW ▸ h5) (hle _ (lsWas_in hτ wz)) [44]
                go_wp2_with (fail)
                cases e9 : takeB T (lsWas T τ wz) [44]
                · rw [e9] at mt
                  ((with_reducible refine mt.mono ?_); rintro e w8 ⟨rfl, h8, s8⟩)
                  go_wp2_with (fail)
                  refine ⟨⟨_, _, _, n, _, rfl, rfl, rfl, takeT_in (lsWas_in hτ wz) _, h8, (hst.trans (s2.trans (s3.trans (s4.trans s5)))).trans s8, ?_, fun h => by cases h⟩, ?_⟩
                  · have hG := HG.out
                    rw [e9, hE2] at hG
                    exact Lib.hid hG
                  · have q1 := posOf_eq h8
                    have q2 := takeT_i T (lsWas T τ wz) [44]
                    have q3 := lsWas_i T τ wz
                    have q4 : (takeT T (lsWas T τ wz) [44]).In T := takeT_in (lsWas_in hτ wz) _
                    exact ls_meas0 hpos q1 (Nat.le_trans q3 q2) q4
                · rw [e9] at mt
                  ((with_reducible refine mt.mono ?_); rintro e w8 ⟨rfl, h8, s8⟩)
                  go_wp2_with (fail)
                  have q2 := takeT_i1 e9
                  have q3 := lsWas_i T τ wz
                  have q4 : (takeT T (lsWas T τ wz) [44]).In T := takeT_in (lsWas_in hτ wz) _
                  refine ⟨⟨_, _, _, n, _, rfl, rfl, rfl, q4, h8, (hst.trans (s2.trans (s3.trans (s4.trans s5)))).trans s8, ?_, fun _ => by omega⟩, ?_⟩
                  · have hG := HG.out
                    rw [e9, hE2] at hG
                    exact Lib.hid hG
                  · exact ls_meas1 hpos (posOf_eq h8) (by omega) q4
              · have hz : (regV T (takeT T (regT T τ) [45]) + 1 - K).toNat = (regV T (takeT T (regT T τ) [45]) + 1 - (K + 1)).toNat + 1 := by have := of_decide_eq_true k0; omega
                rw [hz] at hKe
                unfold orBits at hKe
                have hK1 : K ≤ 15 := by have := of_decide_eq_true k0; omega
                have HKe := Lib.hid hKe
                clear hKe
                go_wp2_with (fail)
                exact ⟨⟨_, _, rfl, rfl, by omega, by omega, HKe, trivial⟩, k_meas hK0 hK1⟩
          · have hW : lsWas T τ wz = badS (badS (regT T (takeT T (regT T τ) [45])) 3) 3 := by unfold lsWas; rw [if_pos (of_decide_eq_true e2), hE]
            go_wp2_with (fail)
            ((with_reducible refine (bad18 h5 3).mono ?_); rintro e w6 ⟨rfl, h6, s6⟩)
            go_wp2_with (fail)
            have HB := Lib.hid (show orBits ((lsEnd T τ).2 + 1 - regV T τ).toNat (regV T τ) L = lsBits T τ L from rfl)
            have hbd := regV_bd T τ
            have hbB := regV_bd T (takeT T (regT T τ) [45])
            rw [hE2] at HB
            go_loopw [3, 8] (fun l k wr => ∃ (K L' : Int), k = .int .i64 K ∧ l = .int .i64 L' ∧ 0 ≤ K ∧ K ≤ 16 ∧ Hid (orBits (regV T (takeT T (regT T τ) [45]) + 1 - K).toNat K L' = lsBits T τ L) ∧ wr = w6) (fun _ k _ => (16 - intOf k).toNat)
            case atStart => exact ⟨_, _, rfl, rfl, hbd.1, by omega, HB, rfl⟩
            case round =>
              obtain ⟨K, L', rfl, rfl, hK0, hK, HK, rfl⟩ := hrel
              clear HB
              have hKe := HK.out
              clear HK
              cases k0 : decide (K ≤ regV T (takeT T (regT T τ) [45]))
              · have hz : (regV T (takeT T (regT T τ) [45]) + 1 - K).toNat = 0 := by have := of_decide_eq_false k0; omega
                rw [hz] at hKe
                unfold orBits at hKe
                subst hKe
                have mt := take18 (hW ▸ h6) (hle _ (lsWas_in hτ wz)) [44]
                go_wp2_with (fail)
                cases e9 : takeB T (lsWas T τ wz) [44]
                · rw [e9] at mt
                  ((with_reducible refine mt.mono ?_); rintro e w8 ⟨rfl, h8, s8⟩)
                  go_wp2_with (fail)
                  refine ⟨⟨_, _, _, n, _, rfl, rfl, rfl, takeT_in (lsWas_in hτ wz) _, h8, (hst.trans (s2.trans (s3.trans (s4.trans (s5.trans s6))))).trans s8, ?_, fun h => by cases h⟩, ?_⟩
                  · have hG := HG.out
                    rw [e9, hE2] at hG
                    exact Lib.hid hG
                  · have q1 := posOf_eq h8
                    have q2 := takeT_i T (lsWas T τ wz) [44]
                    have q3 := lsWas_i T τ wz
                    have q4 : (takeT T (lsWas T τ wz) [44]).In T := takeT_in (lsWas_in hτ wz) _
                    exact ls_meas0 hpos q1 (Nat.le_trans q3 q2) q4
                · rw [e9] at mt
                  ((with_reducible refine mt.mono ?_); rintro e w8 ⟨rfl, h8, s8⟩)
                  go_wp2_with (fail)
                  have q2 := takeT_i1 e9
                  have q3 := lsWas_i T τ wz
                  have q4 : (takeT T (lsWas T τ wz) [44]).In T := takeT_in (lsWas_in hτ wz) _
                  refine ⟨⟨_, _, _, n, _, rfl, rfl, rfl, q4, h8, (hst.trans (s2.trans (s3.trans (s4.trans (s5.trans s6))))).trans s8, ?_, fun _ => by omega⟩, ?_⟩
                  · have hG := HG.out
                    rw [e9, hE2] at hG
                    exact Lib.hid hG
                  · exact ls_meas1 hpos (posOf_eq h8) (by omega) q4
              · have hz : (regV T (takeT T (regT T τ) [45]) + 1 - K).toNat = (regV T (takeT T (regT T τ) [45]) + 1 - (K + 1)).toNat + 1 := by have := of_decide_eq_true k0; omega
                rw [hz] at hKe
                unfold orBits at hKe
                have hK1 : K ≤ 15 := by have := of_decide_eq_true k0; omega
                have HKe := Lib.hid hKe
                clear hKe
                go_wp2_with (fail)
                exact ⟨⟨_, _, rfl, rfl, by omega, by omega, HKe, trivial⟩, k_meas hK0 hK1⟩
theorem Fill.list (F : Fill T b g A cap w0 w p) (hbg : b < g) (hT : T.length ≤ 900000) :
    Calls Tryz.prog 175 #[.pointer (some ⟨b, 0, none⟩)] w (FillV T b g A cap w0 (.int .i64 (listV T p.1)) (listT T p.1, p.2)) :=
  (list18 F.rd F.inn hT).mono fun _ _ h => ⟨h.1, F.step hbg h.2.1 h.2.2.1 h.2.2.2⟩
theorem Fill.sLs (F : Fill T b g A cap w0 w (listT T p.1, p.2)) (hbg : b < g) : Fill T b g A cap w0 (w.setCell ⟨g, 9, none⟩ (.int .i64 (listV T p.1))) (stM T p) := F.set hbg 9 _ rfl fun _ _ _ _ => rfl
end
end Go.Proofs.YtpdkpkabdkefcaaGreatDoor
namespace Go.Proofs.YtpdkpkabdkefcaaGreatDoor
open Go.Sx Go.ChangeShapes Go.WideShapes Go.RowKit Go.Joins Go.Deep Go.Rp
section
variable {w w0 : World} {b g : Nat} {A : Option Addr} {cap : Nat} {T : List Tok} {p : Fs}
set_option maxHeartbeats 4000000 in
theorem Fill.oth31 (F : Fill T b g A cap w0 w p) (hbg : b < g) (hT : T.length ≤ 900000) (_hT2 : ∀ t ∈ T, t.t.length ≤ 1000000000000) (u31 : (p.2.op == 31) = true) :
    Calls Tryz.prog 150 #[.pointer (some ⟨b, 0, none⟩), .pointer (some ⟨g, 0, none⟩)] w (FillV T b g A cap w0 (.tuple #[]) (stL T p)) := by
  unfold FillV
  go_enter Tryz.func150, Tryz.ntmps150
  obtain ⟨a01, a02, a03, a04, a05, a06, a07, a08, a09, a010⟩ := F.ci
  have z0 := fun j => F.ln.fz j
  go_wp2_with (fail)
  clear a01 a02 a03 a04 a05 a06 a07 a08 a09 a010 z0
  ((with_reducible refine (F.reg hbg hT).mono ?_); rintro e w1 ⟨rfl, F1⟩)
  obtain ⟨a21, a22, a23, a24, a25, a26, a27, a28, a29, a210⟩ := F1.ci
  have z2 := fun j => F1.ln.fz j
  have F3 := F1.sRn hbg
  obtain ⟨a41, a42, a43, a44, a45, a46, a47, a48, a49, a410⟩ := F3.ci
  have z4 := fun j => F3.ln.fz j
  go_wp2_with (fail)
  clear a21 a22 a23 a24 a25 a26 a27 a28 a29 a210 z2 a41 a42 a43 a44 a45 a46 a47 a48 a49 a410 z4
  ((with_reducible refine (F3.must hbg hT [33]).mono ?_); rintro e w5 ⟨rfl, F5⟩)
  obtain ⟨a61, a62, a63, a64, a65, a66, a67, a68, a69, a610⟩ := F5.ci
  have z6 := fun j => F5.ln.fz j
  go_wp2_with (fail)
  clear a61 a62 a63 a64 a65 a66 a67 a68 a69 a610 z6
  ((with_reducible refine (F5.must hbg hT [44]).mono ?_); rintro e w7 ⟨rfl, F7⟩)
  obtain ⟨a81, a82, a83, a84, a85, a86, a87, a88, a89, a810⟩ := F7.ci
  have z8 := fun j => F7.ln.fz j
  go_wp2_with (fail)
  clear a81 a82 a83 a84 a85 a86 a87 a88 a89 a810 z8
  ((with_reducible refine (F7.list hbg hT).mono ?_); rintro e w9 ⟨rfl, F9⟩)
  obtain ⟨a101, a102, a103, a104, a105, a106, a107, a108, a109, a1010⟩ := F9.ci
  have z10 := fun j => F9.ln.fz j
  have F11 := F9.sLs hbg
  go_wp2_with (fail)
  clear a101 a102 a103 a104 a105 a106 a107 a108 a109 a1010 z10
  exact bodyPost_end (results_none rfl _ _ _) rfl ⟨rfl, F11⟩
set_option maxHeartbeats 4000000 in
theorem Fill.oth32 (F : Fill T b g A cap w0 w p) (hbg : b < g) (hT : T.length ≤ 900000) (_hT2 : ∀ t ∈ T, t.t.length ≤ 1000000000000) (u31 : (p.2.op == 31) = false) (u32 : (p.2.op == 32) = true) :
    Calls Tryz.prog 150 #[.pointer (some ⟨b, 0, none⟩), .pointer (some ⟨g, 0, none⟩)] w (FillV T b g A cap w0 (.tuple #[]) (stL T p)) := by
  unfold FillV
  go_enter Tryz.func150, Tryz.ntmps150
  obtain ⟨a01, a02, a03, a04, a05, a06, a07, a08, a09, a010⟩ := F.ci
  have z0 := fun j => F.ln.fz j
  go_wp2_with (fail)
  clear a01 a02 a03 a04 a05 a06 a07 a08 a09 a010 z0
  ((with_reducible refine (F.reg hbg hT).mono ?_); rintro e w1 ⟨rfl, F1⟩)
  obtain ⟨a21, a22, a23, a24, a25, a26, a27, a28, a29, a210⟩ := F1.ci
  have z2 := fun j => F1.ln.fz j
  have F3 := F1.sRn hbg
  obtain ⟨a41, a42, a43, a44, a45, a46, a47, a48, a49, a410⟩ := F3.ci
  have z4 := fun j => F3.ln.fz j
  go_wp2_with (fail)
  clear a21 a22 a23 a24 a25 a26 a27 a28 a29 a210 z2 a41 a42 a43 a44 a45 a46 a47 a48 a49 a410 z4
  ((with_reducible refine (F3.must hbg hT [33]).mono ?_); rintro e w5 ⟨rfl, F5⟩)
  obtain ⟨a61, a62, a63, a64, a65, a66, a67, a68, a69, a610⟩ := F5.ci
  have z6 := fun j => F5.ln.fz j
  go_wp2_with (fail)
  clear a61 a62 a63 a64 a65 a66 a67 a68 a69 a610 z6
  ((with_reducible refine (F5.must hbg hT [44]).mono ?_); rintro e w7 ⟨rfl, F7⟩)
  obtain ⟨a81, a82, a83, a84, a85, a86, a87, a88, a89, a810⟩ := F7.ci
  have z8 := fun j => F7.ln.fz j
  go_wp2_with (fail)
  clear a81 a82 a83 a84 a85 a86 a87 a88 a89 a810 z8
  ((with_reducible refine (F7.list hbg hT).mono ?_); rintro e w9 ⟨rfl, F9⟩)
  obtain ⟨a101, a102, a103, a104, a105, a106, a107, a108, a109, a1010⟩ := F9.ci
  have z10 := fun j => F9.ln.fz j
  have F11 := F9.sLs hbg
  go_wp2_with (fail)
  clear a101 a102 a103 a104 a105 a106 a107 a108 a109 a1010 z10
  exact bodyPost_end (results_none rfl _ _ _) rfl ⟨rfl, F11⟩
set_option maxHeartbeats 4000000 in
theorem Fill.oth33 (F : Fill T b g A cap w0 w p) (hbg : b < g) (hT : T.length ≤ 900000) (_hT2 : ∀ t ∈ T, t.t.length ≤ 1000000000000) (u31 : (p.2.op == 31) = false) (u32 : (p.2.op == 32) = false) (u33 : (p.2.op == 33) = true) :
    Calls Tryz.prog 150 #[.pointer (some ⟨b, 0, none⟩), .pointer (some ⟨g, 0, none⟩)] w (FillV T b g A cap w0 (.tuple #[]) (stM T p)) := by
  unfold FillV
  go_enter Tryz.func150, Tryz.ntmps150
  obtain ⟨a01, a02, a03, a04, a05, a06, a07, a08, a09, a010⟩ := F.ci
  have z0 := fun j => F.ln.fz j
  go_wp2_with (fail)
  clear a01 a02 a03 a04 a05 a06 a07 a08 a09 a010 z0
  ((with_reducible refine (F.list hbg hT).mono ?_); rintro e w1 ⟨rfl, F1⟩)
  obtain ⟨a21, a22, a23, a24, a25, a26, a27, a28, a29, a210⟩ := F1.ci
  have z2 := fun j => F1.ln.fz j
  have F3 := F1.sLs hbg
  go_wp2_with (fail)
  clear a21 a22 a23 a24 a25 a26 a27 a28 a29 a210 z2
  exact bodyPost_end (results_none rfl _ _ _) rfl ⟨rfl, F3⟩
set_option maxHeartbeats 4000000 in
theorem Fill.oth34 (F : Fill T b g A cap w0 w p) (hbg : b < g) (hT : T.length ≤ 900000) (_hT2 : ∀ t ∈ T, t.t.length ≤ 1000000000000) (u31 : (p.2.op == 31) = false) (u32 : (p.2.op == 32) = false) (u33 : (p.2.op == 33) = false) (u34 : (p.2.op == 34) = true) :
    Calls Tryz.prog 150 #[.pointer (some ⟨b, 0, none⟩), .pointer (some ⟨g, 0, none⟩)] w (FillV T b g A cap w0 (.tuple #[]) (stM T p)) := by
  unfold FillV
  go_enter Tryz.func150, Tryz.ntmps150
  obtain ⟨a01, a02, a03, a04, a05, a06, a07, a08, a09, a010⟩ := F.ci
  have z0 := fun j => F.ln.fz j
  go_wp2_with (fail)
  clear a01 a02 a03 a04 a05 a06 a07 a08 a09 a010 z0
  ((with_reducible refine (F.list hbg hT).mono ?_); rintro e w1 ⟨rfl, F1⟩)
  obtain ⟨a21, a22, a23, a24, a25, a26, a27, a28, a29, a210⟩ := F1.ci
  have z2 := fun j => F1.ln.fz j
  have F3 := F1.sLs hbg
  go_wp2_with (fail)
  clear a21 a22 a23 a24 a25 a26 a27 a28 a29 a210 z2
  exact bodyPost_end (results_none rfl _ _ _) rfl ⟨rfl, F3⟩
set_option maxHeartbeats 4000000 in
theorem Fill.oth35 (F : Fill T b g A cap w0 w p) (hbg : b < g) (hT : T.length ≤ 900000) (hT2 : ∀ t ∈ T, t.t.length ≤ 1000000000000) (u31 : (p.2.op == 31) = false) (u32 : (p.2.op == 32) = false) (u33 : (p.2.op == 33) = false) (u34 : (p.2.op == 34) = false) (u35 : (p.2.op == 35) = true) :
    Calls Tryz.prog 150 #[.pointer (some ⟨b, 0, none⟩), .pointer (some ⟨g, 0, none⟩)] w (FillV T b g A cap w0 (.tuple #[]) (stReach T p)) := by
  unfold FillV
  go_enter Tryz.func150, Tryz.ntmps150
  obtain ⟨a01, a02, a03, a04, a05, a06, a07, a08, a09, a010⟩ := F.ci
  have z0 := fun j => F.ln.fz j
  go_wp2_with (fail)
  clear a01 a02 a03 a04 a05 a06 a07 a08 a09 a010 z0
  ((with_reducible refine (F.reach hbg hT hT2).mono ?_); rintro e w1 ⟨rfl, F1⟩)
  go_wp2_with (fail)
  exact bodyPost_end (results_none rfl _ _ _) rfl ⟨rfl, F1⟩
set_option maxHeartbeats 4000000 in
theorem Fill.oth36 (F : Fill T b g A cap w0 w p) (hbg : b < g) (hT : T.length ≤ 900000) (hT2 : ∀ t ∈ T, t.t.length ≤ 1000000000000) (u31 : (p.2.op == 31) = false) (u32 : (p.2.op == 32) = false) (u33 : (p.2.op == 33) = false) (u34 : (p.2.op == 34) = false) (u35 : (p.2.op == 35) = false) (u36 : (p.2.op == 36) = true) :
    Calls Tryz.prog 150 #[.pointer (some ⟨b, 0, none⟩), .pointer (some ⟨g, 0, none⟩)] w (FillV T b g A cap w0 (.tuple #[]) (stReach T p)) := by
  unfold FillV
  go_enter Tryz.func150, Tryz.ntmps150
  obtain ⟨a01, a02, a03, a04, a05, a06, a07, a08, a09, a010⟩ := F.ci
  have z0 := fun j => F.ln.fz j
  go_wp2_with (fail)
  clear a01 a02 a03 a04 a05 a06 a07 a08 a09 a010 z0
  ((with_reducible refine (F.reach hbg hT hT2).mono ?_); rintro e w1 ⟨rfl, F1⟩)
  go_wp2_with (fail)
  exact bodyPost_end (results_none rfl _ _ _) rfl ⟨rfl, F1⟩
set_option maxHeartbeats 4000000 in
theorem Fill.oth37 (F : Fill T b g A cap w0 w p) (hbg : b < g) (hT : T.length ≤ 900000) (hT2 : ∀ t ∈ T, t.t.length ≤ 1000000000000) (u31 : (p.2.op == 31) = false) (u32 : (p.2.op == 32) = false) (u33 : (p.2.op == 33) = false) (u34 : (p.2.op == 34) = false) (u35 : (p.2.op == 35) = false) (u36 : (p.2.op == 36) = false) (u37 : (p.2.op == 37) = true) :
    Calls Tryz.prog 150 #[.pointer (some ⟨b, 0, none⟩), .pointer (some ⟨g, 0, none⟩)] w (FillV T b g A cap w0 (.tuple #[]) (stG T p)) := by
  unfold FillV
  go_enter Tryz.func150, Tryz.ntmps150
  obtain ⟨a01, a02, a03, a04, a05, a06, a07, a08, a09, a010⟩ := F.ci
  have z0 := fun j => F.ln.fz j
  go_wp2_with (fail)
  clear a01 a02 a03 a04 a05 a06 a07 a08 a09 a010 z0
  ((with_reducible refine (F.reg hbg hT).mono ?_); rintro e w1 ⟨rfl, F1⟩)
  obtain ⟨a21, a22, a23, a24, a25, a26, a27, a28, a29, a210⟩ := F1.ci
  have z2 := fun j => F1.ln.fz j
  have F3 := F1.sRn hbg
  obtain ⟨a41, a42, a43, a44, a45, a46, a47, a48, a49, a410⟩ := F3.ci
  have z4 := fun j => F3.ln.fz j
  go_wp2_with (fail)
  clear a21 a22 a23 a24 a25 a26 a27 a28 a29 a210 z2 a41 a42 a43 a44 a45 a46 a47 a48 a49 a410 z4
  ((with_reducible refine (F3.must hbg hT [44]).mono ?_); rintro e w5 ⟨rfl, F5⟩)
  obtain ⟨a61, a62, a63, a64, a65, a66, a67, a68, a69, a610⟩ := F5.ci
  have z6 := fun j => F5.ln.fz j
  go_wp2_with (fail)
  clear a61 a62 a63 a64 a65 a66 a67 a68 a69 a610 z6
  ((with_reducible refine (F5.reach hbg hT hT2).mono ?_); rintro e w7 ⟨rfl, F7⟩)
  go_wp2_with (fail)
  exact bodyPost_end (results_none rfl _ _ _) rfl ⟨rfl, F7⟩
set_option maxHeartbeats 4000000 in
theorem Fill.oth38 (F : Fill T b g A cap w0 w p) (hbg : b < g) (hT : T.length ≤ 900000) (hT2 : ∀ t ∈ T, t.t.length ≤ 1000000000000) (u31 : (p.2.op == 31) = false) (u32 : (p.2.op == 32) = false) (u33 : (p.2.op == 33) = false) (u34 : (p.2.op == 34) = false) (u35 : (p.2.op == 35) = false) (u36 : (p.2.op == 36) = false) (u37 : (p.2.op == 37) = false) (u38 : (p.2.op == 38) = true) :
    Calls Tryz.prog 150 #[.pointer (some ⟨b, 0, none⟩), .pointer (some ⟨g, 0, none⟩)] w (FillV T b g A cap w0 (.tuple #[]) (stG T p)) := by
  unfold FillV
  go_enter Tryz.func150, Tryz.ntmps150
  obtain ⟨a01, a02, a03, a04, a05, a06, a07, a08, a09, a010⟩ := F.ci
  have z0 := fun j => F.ln.fz j
  go_wp2_with (fail)
  clear a01 a02 a03 a04 a05 a06 a07 a08 a09 a010 z0
  ((with_reducible refine (F.reg hbg hT).mono ?_); rintro e w1 ⟨rfl, F1⟩)
  obtain ⟨a21, a22, a23, a24, a25, a26, a27, a28, a29, a210⟩ := F1.ci
  have z2 := fun j => F1.ln.fz j
  have F3 := F1.sRn hbg
  obtain ⟨a41, a42, a43, a44, a45, a46, a47, a48, a49, a410⟩ := F3.ci
  have z4 := fun j => F3.ln.fz j
  go_wp2_with (fail)
  clear a21 a22 a23 a24 a25 a26 a27 a28 a29 a210 z2 a41 a42 a43 a44 a45 a46 a47 a48 a49 a410 z4
  ((with_reducible refine (F3.must hbg hT [44]).mono ?_); rintro e w5 ⟨rfl, F5⟩)
  obtain ⟨a61, a62, a63, a64, a65, a66, a67, a68, a69, a610⟩ := F5.ci
  have z6 := fun j => F5.ln.fz j
  go_wp2_with (fail)
  clear a61 a62 a63 a64 a65 a66 a67 a68 a69 a610 z6
  ((with_reducible refine (F5.reach hbg hT hT2).mono ?_); rintro e w7 ⟨rfl, F7⟩)
  go_wp2_with (fail)
  exact bodyPost_end (results_none rfl _ _ _) rfl ⟨rfl, F7⟩
set_option maxHeartbeats 4000000 in
theorem Fill.oth39 (F : Fill T b g A cap w0 w p) (hbg : b < g) (hT : T.length ≤ 900000) (_hT2 : ∀ t ∈ T, t.t.length ≤ 1000000000000) (u31 : (p.2.op == 31) = false) (u32 : (p.2.op == 32) = false) (u33 : (p.2.op == 33) = false) (u34 : (p.2.op == 34) = false) (u35 : (p.2.op == 35) = false) (u36 : (p.2.op == 36) = false) (u37 : (p.2.op == 37) = false) (u38 : (p.2.op == 38) = false) (u39 : (p.2.op == 39) = true) :
    Calls Tryz.prog 150 #[.pointer (some ⟨b, 0, none⟩), .pointer (some ⟨g, 0, none⟩)] w (FillV T b g A cap w0 (.tuple #[]) (stH T p)) := by
  unfold FillV
  go_enter Tryz.func150, Tryz.ntmps150
  obtain ⟨a01, a02, a03, a04, a05, a06, a07, a08, a09, a010⟩ := F.ci
  have z0 := fun j => F.ln.fz j
  have F1 := F.setMd hbg 2
  obtain ⟨a21, a22, a23, a24, a25, a26, a27, a28, a29, a210⟩ := F1.ci
  have z2 := fun j => F1.ln.fz j
  go_wp2_with (fail)
  clear a01 a02 a03 a04 a05 a06 a07 a08 a09 a010 z0 a21 a22 a23 a24 a25 a26 a27 a28 a29 a210 z2
  ((with_reducible refine (F1.reg hbg hT).mono ?_); rintro e w3 ⟨rfl, F3⟩)
  obtain ⟨a41, a42, a43, a44, a45, a46, a47, a48, a49, a410⟩ := F3.ci
  have z4 := fun j => F3.ln.fz j
  have F5 := F3.sRm hbg
  obtain ⟨a61, a62, a63, a64, a65, a66, a67, a68, a69, a610⟩ := F5.ci
  have z6 := fun j => F5.ln.fz j
  go_wp2_with (fail)
  clear a41 a42 a43 a44 a45 a46 a47 a48 a49 a410 z4 a61 a62 a63 a64 a65 a66 a67 a68 a69 a610 z6
  exact bodyPost_end (results_none rfl _ _ _) rfl ⟨rfl, F5⟩
set_option maxHeartbeats 4000000 in
theorem Fill.oth41 (F : Fill T b g A cap w0 w p) (hbg : b < g) (hT : T.length ≤ 900000) (hT2 : ∀ t ∈ T, t.t.length ≤ 1000000000000) (u31 : (p.2.op == 31) = false) (u32 : (p.2.op == 32) = false) (u33 : (p.2.op == 33) = false) (u34 : (p.2.op == 34) = false) (u35 : (p.2.op == 35) = false) (u36 : (p.2.op == 36) = false) (u37 : (p.2.op == 37) = false) (u38 : (p.2.op == 38) = false) (u39 : (p.2.op == 39) = false) (u41 : (p.2.op == 41) = true) :
    Calls Tryz.prog 150 #[.pointer (some ⟨b, 0, none⟩), .pointer (some ⟨g, 0, none⟩)] w (FillV T b g A cap w0 (.tuple #[]) (stI T p)) := by
  unfold FillV
  go_enter Tryz.func150, Tryz.ntmps150
  obtain ⟨a01, a02, a03, a04, a05, a06, a07, a08, a09, a010⟩ := F.ci
  have z0 := fun j => F.ln.fz j
  go_wp2_with (fail)
  clear a01 a02 a03 a04 a05 a06 a07 a08 a09 a010 z0
  ((with_reducible refine (F.reg hbg hT).mono ?_); rintro e w1 ⟨rfl, F1⟩)
  obtain ⟨a21, a22, a23, a24, a25, a26, a27, a28, a29, a210⟩ := F1.ci
  have z2 := fun j => F1.ln.fz j
  have F3 := F1.sRd hbg
  obtain ⟨a41, a42, a43, a44, a45, a46, a47, a48, a49, a410⟩ := F3.ci
  have z4 := fun j => F3.ln.fz j
  go_wp2_with (fail)
  clear a21 a22 a23 a24 a25 a26 a27 a28 a29 a210 z2 a41 a42 a43 a44 a45 a46 a47 a48 a49 a410 z4
  ((with_reducible refine (F3.must hbg hT [44]).mono ?_); rintro e w5 ⟨rfl, F5⟩)
  obtain ⟨a61, a62, a63, a64, a65, a66, a67, a68, a69, a610⟩ := F5.ci
  have z6 := fun j => F5.ln.fz j
  go_wp2_with (fail)
  clear a61 a62 a63 a64 a65 a66 a67 a68 a69 a610 z6
  ((with_reducible refine (F5.reach hbg hT hT2).mono ?_); rintro e w7 ⟨rfl, F7⟩)
  go_wp2_with (fail)
  exact bodyPost_end (results_none rfl _ _ _) rfl ⟨rfl, F7⟩
set_option maxHeartbeats 4000000 in
theorem Fill.oth44 (F : Fill T b g A cap w0 w p) (hbg : b < g) (hT : T.length ≤ 900000) (hT2 : ∀ t ∈ T, t.t.length ≤ 1000000000000) (u31 : (p.2.op == 31) = false) (u32 : (p.2.op == 32) = false) (u33 : (p.2.op == 33) = false) (u34 : (p.2.op == 34) = false) (u35 : (p.2.op == 35) = false) (u36 : (p.2.op == 36) = false) (u37 : (p.2.op == 37) = false) (u38 : (p.2.op == 38) = false) (u39 : (p.2.op == 39) = false) (u41 : (p.2.op == 41) = false) (u44 : (p.2.op == 44) = true) :
    Calls Tryz.prog 150 #[.pointer (some ⟨b, 0, none⟩), .pointer (some ⟨g, 0, none⟩)] w (FillV T b g A cap w0 (.tuple #[]) (stJ T p)) := by
  unfold FillV
  go_enter Tryz.func150, Tryz.ntmps150
  obtain ⟨a01, a02, a03, a04, a05, a06, a07, a08, a09, a010⟩ := F.ci
  have z0 := fun j => F.ln.fz j
  have F1 := F.setMd hbg 1
  obtain ⟨a21, a22, a23, a24, a25, a26, a27, a28, a29, a210⟩ := F1.ci
  have z2 := fun j => F1.ln.fz j
  go_wp2_with (fail)
  clear a01 a02 a03 a04 a05 a06 a07 a08 a09 a010 z0 a21 a22 a23 a24 a25 a26 a27 a28 a29 a210 z2
  ((with_reducible refine (F1.must hbg hT [35]).mono ?_); rintro e w3 ⟨rfl, F3⟩)
  obtain ⟨a41, a42, a43, a44, a45, a46, a47, a48, a49, a410⟩ := F3.ci
  have z4 := fun j => F3.ln.fz j
  go_wp2_with (fail)
  clear a41 a42 a43 a44 a45 a46 a47 a48 a49 a410 z4
  ((with_reducible refine (F3.term hbg hT hT2).mono ?_); rintro e w5 ⟨o, m, s, A', k, cap', rfl, F5, hx⟩)
  obtain ⟨_, _, _, _, d15, d16, d17, d18⟩ := F5.ln.x4
  have z5 := fun j => F5.ln.fz j
  have F6 := F5.sEx hbg hx F3.ln.lt
  go_wp2_with (fail)
  clear d15 d16 d17 d18 z5
  exact bodyPost_end (results_none rfl _ _ _) rfl ⟨rfl, F6⟩
set_option maxHeartbeats 4000000 in
theorem Fill.oth45 (F : Fill T b g A cap w0 w p) (hbg : b < g) (hT : T.length ≤ 900000) (_hT2 : ∀ t ∈ T, t.t.length ≤ 1000000000000) (u31 : (p.2.op == 31) = false) (u32 : (p.2.op == 32) = false) (u33 : (p.2.op == 33) = false) (u34 : (p.2.op == 34) = false) (u35 : (p.2.op == 35) = false) (u36 : (p.2.op == 36) = false) (u37 : (p.2.op == 37) = false) (u38 : (p.2.op == 38) = false) (u39 : (p.2.op == 39) = false) (u41 : (p.2.op == 41) = false) (u44 : (p.2.op == 44) = false) (u45 : (p.2.op == 45) = true) :
    Calls Tryz.prog 150 #[.pointer (some ⟨b, 0, none⟩), .pointer (some ⟨g, 0, none⟩)] w (FillV T b g A cap w0 (.tuple #[]) (stK T p)) := by
  unfold FillV
  go_enter Tryz.func150, Tryz.ntmps150
  obtain ⟨a01, a02, a03, a04, a05, a06, a07, a08, a09, a010⟩ := F.ci
  have z0 := fun j => F.ln.fz j
  go_wp2_with (fail)
  clear a01 a02 a03 a04 a05 a06 a07 a08 a09 a010 z0
  ((with_reducible refine (F.must hbg hT [91]).mono ?_); rintro e w1 ⟨rfl, F1⟩)
  obtain ⟨a21, a22, a23, a24, a25, a26, a27, a28, a29, a210⟩ := F1.ci
  have z2 := fun j => F1.ln.fz j
  go_wp2_with (fail)
  clear a21 a22 a23 a24 a25 a26 a27 a28 a29 a210 z2
  ((with_reducible refine (F1.reg hbg hT).mono ?_); rintro e w3 ⟨rfl, F3⟩)
  obtain ⟨a41, a42, a43, a44, a45, a46, a47, a48, a49, a410⟩ := F3.ci
  have z4 := fun j => F3.ln.fz j
  have F5 := F3.sRn hbg
  obtain ⟨a61, a62, a63, a64, a65, a66, a67, a68, a69, a610⟩ := F5.ci
  have z6 := fun j => F5.ln.fz j
  go_wp2_with (fail)
  clear a41 a42 a43 a44 a45 a46 a47 a48 a49 a410 z4 a61 a62 a63 a64 a65 a66 a67 a68 a69 a610 z6
  ((with_reducible refine (F5.must hbg hT [44]).mono ?_); rintro e w7 ⟨rfl, F7⟩)
  obtain ⟨a81, a82, a83, a84, a85, a86, a87, a88, a89, a810⟩ := F7.ci
  have z8 := fun j => F7.ln.fz j
  have F9 := F7.setMd hbg 2
  obtain ⟨a101, a102, a103, a104, a105, a106, a107, a108, a109, a1010⟩ := F9.ci
  have z10 := fun j => F9.ln.fz j
  go_wp2_with (fail)
  clear a81 a82 a83 a84 a85 a86 a87 a88 a89 a810 z8 a101 a102 a103 a104 a105 a106 a107 a108 a109 a1010 z10
  ((with_reducible refine (F9.reg hbg hT).mono ?_); rintro e w11 ⟨rfl, F11⟩)
  obtain ⟨a121, a122, a123, a124, a125, a126, a127, a128, a129, a1210⟩ := F11.ci
  have z12 := fun j => F11.ln.fz j
  have F13 := F11.sRm hbg
  obtain ⟨a141, a142, a143, a144, a145, a146, a147, a148, a149, a1410⟩ := F13.ci
  have z14 := fun j => F13.ln.fz j
  go_wp2_with (fail)
  clear a121 a122 a123 a124 a125 a126 a127 a128 a129 a1210 z12 a141 a142 a143 a144 a145 a146 a147 a148 a149 a1410 z14
  ((with_reducible refine (F13.must hbg hT [93]).mono ?_); rintro e w15 ⟨rfl, F15⟩)
  obtain ⟨a161, a162, a163, a164, a165, a166, a167, a168, a169, a1610⟩ := F15.ci
  have z16 := fun j => F15.ln.fz j
  go_wp2_with (fail)
  clear a161 a162 a163 a164 a165 a166 a167 a168 a169 a1610 z16
  exact bodyPost_end (results_none rfl _ _ _) rfl ⟨rfl, F15⟩
set_option maxHeartbeats 4000000 in
theorem Fill.oth0 (F : Fill T b g A cap w0 w p) (u31 : (p.2.op == 31) = false) (u32 : (p.2.op == 32) = false) (u33 : (p.2.op == 33) = false) (u34 : (p.2.op == 34) = false) (u35 : (p.2.op == 35) = false) (u36 : (p.2.op == 36) = false) (u37 : (p.2.op == 37) = false) (u38 : (p.2.op == 38) = false) (u39 : (p.2.op == 39) = false) (u41 : (p.2.op == 41) = false) (u44 : (p.2.op == 44) = false) (u45 : (p.2.op == 45) = false) :
    Calls Tryz.prog 150 #[.pointer (some ⟨b, 0, none⟩), .pointer (some ⟨g, 0, none⟩)] w (FillV T b g A cap w0 (.tuple #[]) p) := by
  unfold FillV
  obtain ⟨a1, a2, a3, a4, a5, a6, a7, a8, a9, a10⟩ := F.ci
  go_enter Tryz.func150, Tryz.ntmps150
  go_wp2_with (fail)
  exact bodyPost_end (results_none rfl _ _ _) rfl ⟨rfl, F⟩
end
end Go.Proofs.YtpdkpkabdkefcaaGreatDoor
namespace Go.Proofs.YtpdkpkabdkefcaaGreatDoor
open Go.Sx Go.ChangeShapes Go.WideShapes Go.RowKit Go.Joins Go.Deep Go.Rp
section
variable {w w0 : World} {b g : Nat} {A : Option Addr} {cap : Nat} {T : List Tok} {p : Fs}
theorem Fill.others (F : Fill T b g A cap w0 w p) (hbg : b < g) (hT : T.length ≤ 900000) (hT2 : ∀ t ∈ T, t.t.length ≤ 1000000000000) :
    Calls Tryz.prog 150 #[.pointer (some ⟨b, 0, none⟩), .pointer (some ⟨g, 0, none⟩)] w (FillV T b g A cap w0 (.tuple #[]) (stOthers T p)) := by
  unfold stOthers
  have ne : ∀ k : Int, p.2.op ≠ k → (p.2.op == k) = false := fun k h => by simpa using h
  have eq : ∀ k : Int, p.2.op = k → (p.2.op == k) = true := fun k h => by simpa using h
  by_cases h31 : p.2.op = 31
  · rw [ if_pos (by omega)]; exact F.oth31 hbg hT hT2  (eq 31 h31)
  by_cases h32 : p.2.op = 32
  · rw [ if_pos (by omega)]; exact F.oth32 hbg hT hT2 (ne 31 h31) (eq 32 h32)
  by_cases h33 : p.2.op = 33
  · rw [if_neg (by omega), if_pos (by omega)]; exact F.oth33 hbg hT hT2 (ne 31 h31) (ne 32 h32) (eq 33 h33)
  by_cases h34 : p.2.op = 34
  · rw [if_neg (by omega), if_pos (by omega)]; exact F.oth34 hbg hT hT2 (ne 31 h31) (ne 32 h32) (ne 33 h33) (eq 34 h34)
  by_cases h35 : p.2.op = 35
  · rw [if_neg (by omega), if_neg (by omega), if_pos (by omega)]; exact F.oth35 hbg hT hT2 (ne 31 h31) (ne 32 h32) (ne 33 h33) (ne 34 h34) (eq 35 h35)
  by_cases h36 : p.2.op = 36
  · rw [if_neg (by omega), if_neg (by omega), if_pos (by omega)]; exact F.oth36 hbg hT hT2 (ne 31 h31) (ne 32 h32) (ne 33 h33) (ne 34 h34) (ne 35 h35) (eq 36 h36)
  by_cases h37 : p.2.op = 37
  · rw [if_neg (by omega), if_neg (by omega), if_neg (by omega), if_pos (by omega)]; exact F.oth37 hbg hT hT2 (ne 31 h31) (ne 32 h32) (ne 33 h33) (ne 34 h34) (ne 35 h35) (ne 36 h36) (eq 37 h37)
  by_cases h38 : p.2.op = 38
  · rw [if_neg (by omega), if_neg (by omega), if_neg (by omega), if_pos (by omega)]; exact F.oth38 hbg hT hT2 (ne 31 h31) (ne 32 h32) (ne 33 h33) (ne 34 h34) (ne 35 h35) (ne 36 h36) (ne 37 h37) (eq 38 h38)
  by_cases h39 : p.2.op = 39
  · rw [if_neg (by omega), if_neg (by omega), if_neg (by omega), if_neg (by omega), if_pos (by omega)]; exact F.oth39 hbg hT hT2 (ne 31 h31) (ne 32 h32) (ne 33 h33) (ne 34 h34) (ne 35 h35) (ne 36 h36) (ne 37 h37) (ne 38 h38) (eq 39 h39)
  by_cases h41 : p.2.op = 41
  · rw [if_neg (by omega), if_neg (by omega), if_neg (by omega), if_neg (by omega), if_neg (by omega), if_pos (by omega)]; exact F.oth41 hbg hT hT2 (ne 31 h31) (ne 32 h32) (ne 33 h33) (ne 34 h34) (ne 35 h35) (ne 36 h36) (ne 37 h37) (ne 38 h38) (ne 39 h39) (eq 41 h41)
  by_cases h44 : p.2.op = 44
  · rw [if_neg (by omega), if_neg (by omega), if_neg (by omega), if_neg (by omega), if_neg (by omega), if_neg (by omega), if_pos (by omega)]; exact F.oth44 hbg hT hT2 (ne 31 h31) (ne 32 h32) (ne 33 h33) (ne 34 h34) (ne 35 h35) (ne 36 h36) (ne 37 h37) (ne 38 h38) (ne 39 h39) (ne 41 h41) (eq 44 h44)
  by_cases h45 : p.2.op = 45
  · rw [if_neg (by omega), if_neg (by omega), if_neg (by omega), if_neg (by omega), if_neg (by omega), if_neg (by omega), if_neg (by omega), if_pos (by omega)]; exact F.oth45 hbg hT hT2 (ne 31 h31) (ne 32 h32) (ne 33 h33) (ne 34 h34) (ne 35 h35) (ne 36 h36) (ne 37 h37) (ne 38 h38) (ne 39 h39) (ne 41 h41) (ne 44 h44) (eq 45 h45)
  rw [if_neg (by omega), if_neg (by omega), if_neg (by omega), if_neg (by omega), if_neg (by omega), if_neg (by omega), if_neg (by omega), if_neg (by omega)]; exact F.oth0 (ne 31 h31) (ne 32 h32) (ne 33 h33) (ne 34 h34) (ne 35 h35) (ne 36 h36) (ne 37 h37) (ne 38 h38) (ne 39 h39) (ne 41 h41) (ne 44 h44) (ne 45 h45)
set_option maxHeartbeats 4000000 in
theorem Fill.opsG (F : Fill T b g A cap w0 w p) (hbg : b < g) (hT : T.length ≤ 900000) (hT2 : ∀ t ∈ T, t.t.length ≤ 1000000000000) (u1 : decide (p.2.op ≤ 9) = false) (u2 : decide (p.2.op ≥ 16) = true) (u3 : decide (p.2.op ≤ 19) = false) (v1 : decide (p.2.op ≤ 11) = false) (v2 : decide (p.2.op ≤ 15) = false) (v3 : decide (p.2.op ≤ 22) = false) (v4 : decide (p.2.op ≤ 24) = false) (v5 : decide (p.2.op ≤ 30) = false) :
    Calls Tryz.prog 112 #[.pointer (some ⟨b, 0, none⟩), .pointer (some ⟨g, 0, none⟩)] w (FillV T b g A cap w0 (.tuple #[]) (stOthers T p)) := by
  have ho := F.others hbg hT hT2
  unfold FillV at ho ⊢
  obtain ⟨a1, a2, a3, a4, a5, a6, a7, a8, a9, a10⟩ := F.ci
  go_enter Tryz.func112, Tryz.ntmps112
  go_wp2_with (fail)
  ((with_reducible refine ho.mono ?_); rintro e w1 ⟨rfl, F1⟩)
  go_wp2_with (fail)
  exact bodyPost_end (results_none rfl _ _ _) rfl ⟨rfl, F1⟩
theorem Fill.ops (F : Fill T b g A cap w0 w p) (hbg : b < g) (hT : T.length ≤ 900000) (hT2 : ∀ t ∈ T, t.t.length ≤ 1000000000000) :
    Calls Tryz.prog 112 #[.pointer (some ⟨b, 0, none⟩), .pointer (some ⟨g, 0, none⟩)] w (FillV T b g A cap w0 (.tuple #[]) (stOps T p)) := by
  unfold stOps
  by_cases h9 : p.2.op ≤ 9
  · rw [if_pos (.inl h9)]; exact F.opsA1 hbg hT hT2 (decide_eq_true h9)
  have u1 : decide (p.2.op ≤ 9) = false := decide_eq_false h9
  by_cases h16 : p.2.op ≥ 16
  · have u2 : decide (p.2.op ≥ 16) = true := decide_eq_true h16
    by_cases h19 : p.2.op ≤ 19
    · rw [if_pos (.inr ⟨h16, h19⟩)]; exact F.opsA2 hbg hT hT2 u1 u2 (decide_eq_true h19)
    have u3 : decide (p.2.op ≤ 19) = false := decide_eq_false h19
    rw [if_neg (by omega), if_neg (by omega), if_neg (by omega)]
    have v1 : decide (p.2.op ≤ 11) = false := decide_eq_false (by omega)
    have v2 : decide (p.2.op ≤ 15) = false := decide_eq_false (by omega)
    by_cases h22 : p.2.op ≤ 22
    · rw [if_pos h22]; exact F.opsD hbg hT hT2 u1 u2 u3 v1 v2 (decide_eq_true h22)
    have v3 : decide (p.2.op ≤ 22) = false := decide_eq_false h22
    rw [if_neg h22]
    by_cases h24 : p.2.op ≤ 24
    · rw [if_pos h24]; exact F.opsE hbg hT hT2 u1 u2 u3 v1 v2 v3 (decide_eq_true h24)
    have v4 : decide (p.2.op ≤ 24) = false := decide_eq_false h24
    rw [if_neg h24]
    by_cases h30 : p.2.op ≤ 30
    · rw [if_pos h30]; exact F.opsF hbg hT hT2 u1 u2 u3 v1 v2 v3 v4 (decide_eq_true h30)
    rw [if_neg h30]; exact F.opsG hbg hT hT2 u1 u2 u3 v1 v2 v3 v4 (decide_eq_false h30)
  · have u2 : decide (p.2.op ≥ 16) = false := decide_eq_false h16
    rw [if_neg (by omega)]
    by_cases h11 : p.2.op ≤ 11
    · rw [if_pos h11]; exact F.opsBa hbg hT hT2 u1 u2 (decide_eq_true h11)
    · rw [if_neg h11, if_pos (by omega)]; exact F.opsCa hbg hT hT2 u1 u2 (decide_eq_false h11) (decide_eq_true (by omega))
end
end Go.Proofs.YtpdkpkabdkefcaaGreatDoor
namespace Go.Proofs.YtpdkpkabdkefcaaGreatDoor
open Go.Sx Go.ChangeShapes Go.WideShapes Go.RowKit Go.Joins Go.Deep Go.Rp
def booE : Ele Bool where
  cells := fun x => #[.bool x]
  z := 1
  len := fun _ => rfl
  one := fun x u hu => by
    simp only [List.mem_cons, List.not_mem_nil, or_false] at hu
    subst hu; rfl
  pos := by decide
theorem booInfo : (Tryz.prog.info? 4).map (fun i => (i.zero, i.size, i.bytes)) = some (some (.bool false), 1, 1) := by kernel_rfl
theorem app_boo (w0 : World) {ops : Array Oper} {rest : List Oper} {o : Oper} {a : Act} {Q : Exit → Act → World → Prop} (hgd : o.guard = none) (s x : Operand)
    (ho : o.op = .call { callee := .builtin .append, args := #[s, x], argTypes := #[38, 38] }) (base : Nat) (hbase : base ≤ w0.heap.size) (l : List Bool) (k : Bool) (hlen : l.length ≤ 1000000)
    (v : Value) (hs : a.eval s = v) (hown : w0.ownsRow base 4 1 v l.length (encR booE l)) (g : Nat) (hx : a.eval x = .slice (some ⟨g, 0, none⟩) 1 1) (hg : g = w0.heap.size)
    (h : ∀ v' w', w'.ownsRow base 4 1 v' (l ++ [k]).length (encR booE (l ++ [k])) → Below base w0 w' → wpList Tryz.prog ops Q rest (a.put o.dst v') w') :
    wpList Tryz.prog ops Q (o :: rest) a (w0.alloc (.cells #[.bool k] 4)) := by
  obtain ⟨i0, hi0, hz0, hz1, hz2⟩ := info_parts booInfo
  exact app_row (E := booE) w0 4 38 Tryz.underlying38 hi0 hz0 hz1 (by rw [hz2]; decide) rfl hgd s x ho base hbase l k hlen v hs hown g hx hg h
def BooRet (B : Nat) (e : Ending) (w : World) : Option (List Bool) → Prop
  | none => e = .returned (.tuple #[.slice none 0 0, .bool false])
  | some T => ∃ A cap, e = .returned (.tuple #[.slice A T.length cap, .bool true]) ∧ RSl A T.length cap ∧ RAt booE w w.heap.size A T ∧ ∀ q o, A = some ⟨q, o, none⟩ → B ≤ q
set_option maxHeartbeats 4000000 in
theorem block18 (l : Bs) (hl : l.length ≤ 1000000000000) (w : World) : Calls Tryz.prog 109 #[.string (tx l)] w fun e w' => BooRet w.heap.size e w' (blockP l) ∧ Below w.heap.size w w' := by
  generalize hR : blockP l = R
  unfold blockP at hR
  have hX2 : ((tx l).extract 0 2) = tx (l.take 2) := by rw [ext_tx]; rfl
  go_enter Tryz.func109, Tryz.ntmps109
  cases a1 : decide ((l.length : Int) < 2)
  rotate_left
  · have := of_decide_eq_true a1
    rw [if_pos (.inl (by omega))] at hR
    subst hR
    go_wp2_with (fail)
    exact bodyPost_ret (results_tmp2 rfl _ _ _) rfl ⟨(by unfold BooRet; rfl), Below.refl _ _⟩
  cases a2 : decide (5 < (l.length : Int))
  rotate_left
  · have := of_decide_eq_true a2
    rw [if_pos (.inr (.inl (by omega)))] at hR
    subst hR
    go_wp2_with (fail)
    exact bodyPost_ret (results_tmp2 rfl _ _ _) rfl ⟨(by unfold BooRet; rfl), Below.refl _ _⟩
  have b1 := of_decide_eq_false a1
  have b2 := of_decide_eq_false a2
  have u3 : decide (2 ≤ (l.length : Int)) = true := decide_eq_true (by omega)
  cases a3 : (l.take 2 == [105, 116])
  · rw [if_pos (.inr (.inr (ne_of_beq_false a3)))] at hR
    subst hR
    go_wp2_with (fail)
    exact bodyPost_ret (results_tmp2 rfl _ _ _) rfl ⟨(by unfold BooRet; rfl), Below.refl _ _⟩
  · rw [if_neg (by rintro (h | h | h); · omega
                   · omega
                   · exact h (eq_of_beq a3))] at hR
    have HR := Lib.hid hR
    clear hR
    go_wp2_with (fail)
    clear a1 a2 a3 u3 hX2
    go_loopw [4, 5] (fun v t wr => ∃ (n : Nat) (acc : List Bool), t = .int .i64 n ∧ 2 ≤ n ∧ n ≤ l.length ∧ acc.length ≤ n ∧ Hid ((blockF (l.drop n)).map (acc ++ ·) = R) ∧ wr.ownsRow w.heap.size 4 1 v acc.length (encR booE acc) ∧ Below w.heap.size w wr) (fun _ t _ => l.length - (intOf t).toNat)
    case atStart => exact ⟨2, [], rfl, by omega, by omega, by simp, by have h := HR.out; refine Lib.hid ?_; rw [← h]; simp, World.ownsRow_nil _ _ _ _, Below.refl _ _⟩
    case round =>
      obtain ⟨n, acc, rfl, hn2, hn, hac, he, hown, hb⟩ := hrel
      clear HR
      have hE := he.out
      clear he
      by_cases hlt : n < l.length
      · have u0 : decide ((n : Int) < (l.length : Int)) = true := decide_eq_true (by omega)
        obtain ⟨bb, r, hdr⟩ : ∃ bb r, l.drop n = bb :: r := ⟨_, _, List.drop_eq_getElem_cons hlt⟩
        have hdr1 : l.drop (n + 1) = r := by rw [← List.tail_drop, hdr]; rfl
        have q : n < (tx l).size := hlt
        have hz : ((((tx l)[n]'q).toNat : Int)) = (bb.toNat : Int) := by
          have e2 : l[n] = bb := by
            have := List.drop_eq_getElem_cons hlt
            rw [hdr] at this
            injection this with h1 h2
            exact h1.symm
          rw [← e2]; rfl
        rw [hdr] at hE
        unfold blockF at hE
        have h116 : (bb == 116) = ((bb.toNat : Int) == 116) := by rw [← byte_eq bb 116]; rfl
        have h101 : (bb == 101) = ((bb.toNat : Int) == 101) := by rw [← byte_eq bb 101]; rfl
        rw [h116, h101] at hE
        have HE := Lib.hid hE
        clear hE
        generalize (bb.toNat : Int) = z at hz h116 h101 HE
        cases e116 : (z == 116)
        · have n116 : (z != 116) = true := by simpa using e116
          cases e101 : (z == 101)
          · have n101 : (z != 101) = true := by simpa using e101
            have hE := HE.out
            rw [e116, e101] at hE
            obtain rfl : R = none := hE.symm
            clear hE HE
            go_wp2_with (fail)
            exact bodyPost_ret (results_tmp2 rfl _ _ _) rfl ⟨(by unfold BooRet; rfl), hb⟩
          · have n101 : (z != 101) = false := by simpa using e101
            have hE := HE.out
            rw [e116, e101] at hE
            have hE2 : ((blockF r).map ((acc ++ [false]) ++ ·)) = R := by
              rw [← hE]
              cases blockF r <;> simp
            have HE2 := Lib.hid hE2
            clear hE hE2 HE
            go_wp2_with (at_builtin; refine app_boo wr rfl _ _ rfl w.heap.size hb.size acc false (by omega) _ rfl ?_ _ rfl rfl ?_; exact hown; intro v2 w2 hown2 hb2)
            go_roundw
            case rel => exact ⟨n + 1, acc ++ [false], by go_num, by omega, by omega, by simp; omega, by rw [hdr1]; exact HE2, hown2, hb.trans hb2⟩
            case measure => simp [intOf]; omega
        · have n116 : (z != 116) = false := by simpa using e116
          have hE := HE.out
          rw [e116] at hE
          have hE2 : ((blockF r).map ((acc ++ [true]) ++ ·)) = R := by
            rw [← hE]
            cases blockF r <;> simp
          have HE2 := Lib.hid hE2
          clear hE hE2 HE
          go_wp2_with (at_builtin; refine app_boo wr rfl _ _ rfl w.heap.size hb.size acc true (by omega) _ rfl ?_ _ rfl rfl ?_; exact hown; intro v2 w2 hown2 hb2)
          go_roundw
          case rel => exact ⟨n + 1, acc ++ [true], by go_num, by omega, by omega, by simp; omega, by rw [hdr1]; exact HE2, hown2, hb.trans hb2⟩
          case measure => simp [intOf]; omega
      · obtain rfl : n = l.length := by omega
        have u0 : decide ((l.length : Int) < (l.length : Int)) = false := decide_eq_false (by omega)
        rw [List.drop_eq_nil_of_le (Nat.le_refl _)] at hE
        obtain rfl : R = some acc := by rw [← hE]; simp [blockF]
        clear hE
        obtain ⟨A, cap, rfl, h1, h2, h3⟩ := own_row2 hown
        go_wp2_with fail
        exact bodyPost_ret (results_tmp2 rfl _ _ _) rfl ⟨⟨A, cap, rfl, h1, h2, h3⟩, hb⟩
end Go.Proofs.YtpdkpkabdkefcaaGreatDoor
namespace Go.Proofs.YtpdkpkabdkefcaaGreatDoor
open Go.Sx Go.ChangeShapes Go.WideShapes Go.RowKit Go.Joins Go.Deep Go.Rp
theorem mask_step {M a β : Int} (hM : 0 ≤ M) (h : M + 2 * a ≤ 16) (h0 : 0 ≤ a) (hb : β = 0 ∨ β = 1) : wrap64 (M + wrap64 (β * a)) = M + β * a ∧ 0 ≤ M + β * a ∧ M + β * a + 2 * (a / 2) ≤ 16 := by
  rcases hb with rfl | rfl
  · rw [Int.zero_mul]; unfold wrap64; omega
  · rw [Int.one_mul]; unfold wrap64; omega
set_option maxHeartbeats 4000000 in
theorem mask04 (c : Int) (l : List Bool) (hl : l.length ≤ 1000000000000) (A : Option Addr) (cap : Nat) (w : World) (hrow : RAt booE w w.heap.size A l) :
    Calls Tryz.prog 143 #[.int .i64 c, .slice A l.length cap] w fun e w' => e = .returned (.int .i64 (maskP c l)) ∧ w' = w := by
  generalize hR : maskP c l = R
  unfold maskP at hR
  go_enter Tryz.func143, Tryz.ntmps143
  cases a1 : decide (c < 0)
  rotate_left
  · rw [if_pos (.inl (of_decide_eq_true a1))] at hR
    subst hR
    go_wp2_with (fail)
    exact bodyPost_ret (results_tmp rfl _ _ _) rfl ⟨rfl, rfl⟩
  cases a2 : decide (14 < c)
  rotate_left
  · rw [if_pos (.inr (.inl (of_decide_eq_true a2)))] at hR
    subst hR
    go_wp2_with (fail)
    exact bodyPost_ret (results_tmp rfl _ _ _) rfl ⟨rfl, rfl⟩
  cases a3 : decide (3 < (l.length : Int))
  rotate_left
  · rw [if_pos (.inr (.inr (by have := of_decide_eq_true a3; omega)))] at hR
    subst hR
    go_wp2_with (fail)
    exact bodyPost_ret (results_tmp rfl _ _ _) rfl ⟨rfl, rfl⟩
  have b1 := of_decide_eq_false a1
  have b2 := of_decide_eq_false a2
  have b3 := of_decide_eq_false a3
  rw [if_neg (by omega)] at hR
  have HR := Lib.hid hR
  clear hR
  go_wp2_with (fail)
  clear a1 a2 a3
  go_loopw [5, 6, 7] (fun m a t wr => ∃ (n : Nat) (M a' : Int), t = .int .i64 n ∧ m = .int .i64 M ∧ a = .int .i64 a' ∧ n ≤ l.length ∧ 0 ≤ M ∧ M + 2 * a' ≤ 16 ∧ 0 ≤ a' ∧ a' ≤ 8 ∧ Hid (maskF c (l.drop n) M a' = R) ∧ wr = w) (fun _ _ t _ => l.length - (intOf t).toNat)
  case atStart => exact ⟨0, 0, 8, rfl, rfl, rfl, by omega, by omega, by omega, by omega, by omega, HR, rfl⟩
  case round =>
    obtain ⟨n, M, a', rfl, rfl, rfl, hn, hM, hMa, ha0, ha8, he, rfl⟩ := hrel
    clear HR
    have hE := he.out
    clear he
    by_cases hlt : n < l.length
    · have u0 : decide ((n : Int) < (l.length : Int)) = true := decide_eq_true (by omega)
      obtain ⟨g, off, rfl, hg, hc⟩ := hrow.at_ hlt
      have hc0 : wr.cell? ⟨g, off + n, none⟩ = some (.bool l[n]) := by have h := hc 0 (.bool l[n]) rfl; simpa [booE] using h
      have hd : l.drop n = l[n] :: l.drop (n + 1) := List.drop_eq_getElem_cons hlt
      rw [hd] at hE
      unfold maskF at hE
      generalize hx : l[n] = x at hE hc0 hd
      have HE := Lib.hid hE
      clear hE hd hc
      cases x
      · have nx : (!false) = true := rfl
        cases e14 : (c == 14)
        · have S := mask_step hM hMa ha0 (show 1 - c % 2 = 0 ∨ 1 - c % 2 = 1 by omega)
          go_wp2_with (fail)
          refine ⟨⟨n + 1, _, _, by go_num, rfl, rfl, by omega, S.2.1, S.2.2, by omega, by omega, ?_, trivial⟩, meas_lt _ _ hlt _ (by go_num)⟩
          have hE := HE.out
          rw [if_neg (by rintro ⟨_, h⟩; exact absurd h (ne_of_beq_false e14))] at hE
          exact Lib.hid hE
        · have hE := HE.out
          rw [if_pos ⟨rfl, eq_of_beq e14⟩] at hE
          subst hE
          clear HE
          go_wp2_with (fail)
          exact bodyPost_ret (results_tmp rfl _ _ _) rfl ⟨rfl, rfl⟩
      · have S := mask_step hM hMa ha0 (show c % 2 = 0 ∨ c % 2 = 1 by omega)
        go_wp2_with (fail)
        refine ⟨⟨n + 1, _, _, by go_num, rfl, rfl, by omega, S.2.1, S.2.2, by omega, by omega, ?_, trivial⟩, meas_lt _ _ hlt _ (by go_num)⟩
        have hE := HE.out
        rw [if_neg (by rintro ⟨h, _⟩; cases h)] at hE
        exact Lib.hid hE
    · obtain rfl : n = l.length := by omega
      have u0 : decide ((l.length : Int) < (l.length : Int)) = false := decide_eq_false (by omega)
      rw [List.drop_eq_nil_of_le (Nat.le_refl _)] at hE
      unfold maskF at hE
      subst hE
      go_wp2_with (fail)
      exact bodyPost_ret (results_tmp rfl _ _ _) rfl ⟨rfl, rfl⟩
end Go.Proofs.YtpdkpkabdkefcaaGreatDoor
namespace Go.Proofs.YtpdkpkabdkefcaaGreatDoor
open Go.Sx Go.ChangeShapes Go.WideShapes Go.RowKit Go.Joins Go.Deep Go.Rp
section
variable {w w0 : World} {b g : Nat} {A : Option Addr} {cap : Nat} {T : List Tok} {p : Fs}
theorem itC_lt {σ : Rs} (h : ¬ itC T σ < 0) : σ.i < T.length := by
  unfold itC at h
  split at h
  · rename_i hk; exact tokA_lt (by omega)
  · omega
theorem Fill.setIt (F : Fill T b g A cap w0 w p) (hbg : b < g) (c q : Int) :
    Fill T b g A cap w0 (((((((((w.setCell ⟨g, 2, none⟩ (.int .i64 42)).setCell ⟨g, 3, none⟩ (.int .i64 c)).setCell ⟨g, 4, none⟩ (.int .i64 0)).setCell ⟨g, 5, none⟩ (.int .i64 0)).setCell ⟨g, 6, none⟩ (.int .i64 0)).setCell ⟨g, 7, none⟩ (.int .i64 q)).setCell ⟨g, 8, none⟩ (.int .i64 1)).setCell ⟨g, 9, none⟩ (.int .i64 0)).setCell ⟨g, 10, none⟩ (.bool false))
      (p.1, { p.2 with op := 42, ic := c, rd := 0, rn := 0, rm := 0, im := q, md := 1, ls := 0, s := false }) := by
  have F1 := F.set hbg (y' := { p.2 with op := 42 }) 2 (.int .i64 42) rfl fun _ _ _ _ => rfl
  have F2 := F1.set hbg (y' := { p.2 with op := 42, ic := c }) 3 (.int .i64 c) rfl fun _ _ _ _ => rfl
  have F3 := F2.set hbg (y' := { p.2 with op := 42, ic := c, rd := 0 }) 4 (.int .i64 0) rfl fun _ _ _ _ => rfl
  have F4 := F3.set hbg (y' := { p.2 with op := 42, ic := c, rd := 0, rn := 0 }) 5 (.int .i64 0) rfl fun _ _ _ _ => rfl
  have F5 := F4.set hbg (y' := { p.2 with op := 42, ic := c, rd := 0, rn := 0, rm := 0 }) 6 (.int .i64 0) rfl fun _ _ _ _ => rfl
  have F6 := F5.set hbg (y' := { p.2 with op := 42, ic := c, rd := 0, rn := 0, rm := 0, im := q }) 7 (.int .i64 q) rfl fun _ _ _ _ => rfl
  have F7 := F6.set hbg (y' := { p.2 with op := 42, ic := c, rd := 0, rn := 0, rm := 0, im := q, md := 1 }) 8 (.int .i64 1) rfl fun _ _ _ _ => rfl
  have F8 := F7.set hbg (y' := { p.2 with op := 42, ic := c, rd := 0, rn := 0, rm := 0, im := q, md := 1, ls := 0 }) 9 (.int .i64 0) rfl fun _ _ _ _ => rfl
  exact F8.set hbg (y' := { p.2 with op := 42, ic := c, rd := 0, rn := 0, rm := 0, im := q, md := 1, ls := 0, s := false }) 10 (.bool false) rfl fun _ _ _ _ => rfl
set_option maxHeartbeats 4000000 in
theorem Fill.it (F : Fill T b g A cap w0 w p) (hbg : b < g) (hT : T.length ≤ 900000) (m : List Bool) (A' : Option Addr) (c' : Nat) (hm : m.length ≤ 1000) (hrow : RAt booE w w.heap.size A' m) (hnb : ∀ q o, A' = some ⟨q, o, none⟩ → q ≠ b) :
    Calls Tryz.prog 110 #[.pointer (some ⟨b, 0, none⟩), .pointer (some ⟨g, 0, none⟩), .slice A' m.length c'] w (FillV T b g A cap w0 (.tuple #[]) (itP T m p)) := by
  obtain ⟨σ, y⟩ := p
  unfold FillV
  have ht : ∀ w', Fill T b g A cap w0 w' (σ, y) → Calls Tryz.prog 108 #[.pointer (some ⟨b, 0, none⟩)] w' fun e w'' => e = .returned (.agg #[.int .i64 (tokA T σ.i).k, .int .i64 (tokA T σ.i).n, .string (tx (tokA T σ.i).t)]) ∧ Below w'.heap.size w' w'' := fun w' h => tt18 h.rd
  have hC : itC T σ = if (tokA T σ.i).k = 1 ∧ (tokA T σ.i).t ≠ [] then condFind (tokA T σ.i).t else -1 := rfl
  generalize hG : itP T m (σ, y) = G
  unfold itP at hG
  dsimp only at hG
  have hlt : ¬ itC T σ < 0 → σ.i < T.length := itC_lt
  generalize itC T σ = c at hC hG hlt
  have hcf := cond04_find (tokA T σ.i).t
  generalize tokA T σ.i = tk at ht hC hcf
  have HG := Lib.hid hG
  have HC := Lib.hid hC
  clear hG hC
  have ft := fun (k n : Int) (s : ByteArray) (w : World) => field_tok w k n s
  go_enter Tryz.func110, Tryz.ntmps110
  go_wp2_with (fail)
  ((with_reducible refine (ht _ F).mono ?_); rintro e w1 ⟨rfl, hb1⟩)
  have F1 := F.below hb1 hbg
  have hneg : c = -1 → G = (badS σ 3, y) := fun h => by
    have := HG.out
    rw [if_pos (by omega)] at this
    exact this.symm
  have f1 := ft tk.k tk.n (tx tk.t)
  have nlt : decide ((-1 : Int) < 0) = true := rfl
  cases e1 : (tk.k == 1)
  · obtain rfl := hneg (by have h := HC.out; rw [if_neg (fun h => absurd h.1 (ne_of_beq_false e1))] at h; exact h)
    clear HG HC hneg
    go_wp2_with (fail)
    ((with_reducible refine (bad18 F1.rd 3).mono ?_); rintro e w2 ⟨rfl, h2, s2⟩)
    go_wp2_with (fail)
    exact bodyPost_ret (results_none rfl _ _ _) rfl ⟨rfl, F1.step hbg h2 (badS_in F1.inn _) s2⟩
  go_wp2_with (fail)
  ((with_reducible refine (ht _ F1).mono ?_); rintro e w2 ⟨rfl, hb2⟩)
  have F2 := F1.below hb2 hbg
  cases e2 : (tk.t == [])
  rotate_left
  · obtain rfl := hneg (by have h := HC.out; rw [if_neg (fun h => h.2 (eq_of_beq e2))] at h; exact h)
    clear HG HC hneg
    go_wp2_with (fail)
    ((with_reducible refine (bad18 F2.rd 3).mono ?_); rintro e w3 ⟨rfl, h2, s2⟩)
    go_wp2_with (fail)
    exact bodyPost_ret (results_none rfl _ _ _) rfl ⟨rfl, F2.step hbg h2 (badS_in F2.inn _) s2⟩
  go_wp2_with (fail)
  ((with_reducible refine (ht _ F2).mono ?_); rintro e w3 ⟨rfl, hb3⟩)
  have F3 := F2.below hb3 hbg
  have hcc : c = condFind tk.t := by have h := HC.out; rw [if_pos ⟨eq_of_beq e1, ne_of_beq_false e2⟩] at h; exact h
  rw [← hcc] at hcf
  clear HC hcc hneg ht
  go_wp2_with (fail)
  ((with_reducible refine (hcf _).mono ?_); rintro e w4 ⟨rfl, hb4⟩)
  have F4 := F3.below hb4 hbg
  clear hcf e1 e2 nlt
  cases e3 : decide (c < 0)
  rotate_left
  · have hG := HG.out
    rw [if_pos (of_decide_eq_true e3)] at hG
    subst hG
    clear HG
    go_wp2_with (fail)
    ((with_reducible refine (bad18 F4.rd 3).mono ?_); rintro e w5 ⟨rfl, h2, s2⟩)
    go_wp2_with (fail)
    exact bodyPost_ret (results_none rfl _ _ _) rfl ⟨rfl, F4.step hbg h2 (badS_in F4.inn _) s2⟩
  have hc0 := of_decide_eq_false e3
  have hG := HG.out
  rw [if_neg hc0] at hG
  have HG2 := Lib.hid hG
  clear HG hG
  have c1 := F4.rd.c1
  have fz1 := F4.rd.fz 1
  have hi4 := F4.le hT
  dsimp only at c1 hi4
  have F5 : Fill T b g A cap w0 (w4.setCell ⟨b, 1, none⟩ (.int .i64 ((σ.i : Int) + 1))) (⟨σ.i + 1, σ.e⟩, y) := F4.step hbg (RdS.step F4.rd) (hlt (by omega)) (Stay.set _ _ _)
  have hb14 : Below w.heap.size w w4 := ((hb1.trans (hb2.mono hb1.size)).trans (hb3.mono (Nat.le_trans hb1.size hb2.size))).trans (hb4.mono (Nat.le_trans hb1.size (Nat.le_trans hb2.size hb3.size)))
  have hr5 : RAt booE (w4.setCell ⟨b, 1, none⟩ (.int .i64 ((σ.i : Int) + 1))) (w4.setCell ⟨b, 1, none⟩ (.int .i64 ((σ.i : Int) + 1))).heap.size A' m := fun hn => by
    obtain ⟨q, off, hA, hq, hc⟩ := hrow hn
    have hz := hb14.size
    refine ⟨q, off, hA, by simp [World.setCell]; omega, fun i v hv => ?_⟩
    exact (World.cell?_of_block (a := ⟨q, off + i, none⟩) (Below.heap_setCell w4 ⟨b, 1, none⟩ _ q (hnb _ _ hA))).trans ((hb14.cell (p := ⟨q, off + i, none⟩) hq).trans (hc i v hv))
  have hmk := mask04 c m (by omega) A' c' _ hr5
  obtain ⟨z1, z2, z3, z4, z5, z6, z7, z8, z9, z10⟩ := F5.ci
  have fz5 := fun j => F5.ln.fz j
  generalize hq : maskP c m = im at hmk HG2
  clear hq hr5 hb14 hrow hnb hb1 hb2 hb3 hb4 ft
  have F6 := F5.setIt hbg c im
  go_wp2_with (fail)
  ((with_reducible refine hmk.mono ?_); rintro e w5 ⟨rfl, rfl⟩)
  obtain ⟨_, _, _, _, _, _, y7, _⟩ := F6.ci
  clear c1 fz1 hmk
  cases e4 : (im == 0)
  · have hG := HG2.out
    rw [if_neg (ne_of_beq_false e4)] at hG
    subst hG
    clear HG2
    go_wp2_with (fail)
    exact bodyPost_end (results_none rfl _ _ _) rfl ⟨rfl, F6⟩
  · have hG := HG2.out
    rw [if_pos (eq_of_beq e4)] at hG
    subst hG
    clear HG2
    go_wp2_with (fail)
    ((with_reducible refine (bad18 F6.rd 3).mono ?_); rintro e w6 ⟨rfl, h2, s2⟩)
    go_wp2_with (fail)
    exact bodyPost_end (results_none rfl _ _ _) rfl ⟨rfl, F6.step hbg h2 (badS_in F6.inn _) s2⟩
end
end Go.Proofs.YtpdkpkabdkefcaaGreatDoor
