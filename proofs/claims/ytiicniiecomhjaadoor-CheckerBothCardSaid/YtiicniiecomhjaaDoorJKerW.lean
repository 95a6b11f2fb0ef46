/- For the seat: texts joined: KerW. -/
import Derived.Test.YtiicniiecomhjaaDoorJKerR
/- For the seat: chapter 25's example; Few, Check. -/
namespace Go.Proofs.YtiicniiecomhjaaDoor
open Go.Sx Go.ChangeShapes Go.WideShapes Go.RowKit Go.Joins Go.Deep

/-- Is an image not too large? -/
def fewI (n : Nat) (l : List Itm) : Int := if n ≤ 3145728 ∧ l.length ≤ 300 then (if (l.all fun y => decide (y.vs.length ≤ 300)) = true then 1 else 0) else 0

set_option maxRecDepth 100000 in
set_option maxHeartbeats 1000000 in
theorem few_any (s : ByteArray) (l : List Itm) (A : Option Addr) (cap : Nat) (w : World) (hA : ItAt w w.heap.size A l) (hl : l.length ≤ maxLen) :
    Calls Tryd.prog 5 #[.agg #[.string s, .slice A l.length cap]] w fun e w' => e = .returned (.int .i64 (fewI s.size l)) ∧ Below w.heap.size w w' := by
  unfold maxLen at hl
  have b0 : Below w.heap.size w (w.alloc (.cells #[.string s, .slice A l.length cap] 24)) := (Below.refl _ _).alloc (Nat.le_refl _) _
  have c0 : (w.alloc (.cells #[.string s, .slice A l.length cap] 24)).cell? ⟨w.heap.size, 0, none⟩ = some (.string s) := cell_allocN _ _ _ 0
  have c01 : (w.alloc (.cells #[.string s, .slice A l.length cap] 24)).cell? ⟨w.heap.size, 1, none⟩ = some (.slice A l.length cap) := cell_allocN _ _ _ 1
  have hsz : (w.alloc (.cells #[.string s, .slice A l.length cap] 24)).heap.size = w.heap.size + 1 := by simp
  generalize hW : w.alloc (.cells #[.string s, .slice A l.length cap] 24) = W0 at b0 c0 c01 hsz
  generalize hR : fewI s.size l = R
  unfold fewI at hR
  go_enter Tryd.func5, Tryd.ntmps5
  by_cases h1 : s.size ≤ 3145728
  · have e1 : decide ((3145728 : Int) < (s.size : Int)) = false := decide_eq_false (by omega)
    by_cases h2 : l.length ≤ 300
    · have e2 : decide ((300 : Int) < (l.length : Int)) = false := decide_eq_false (by omega)
      rw [if_pos ⟨h1, h2⟩] at hR
      have HR := Lib.hid hR
      clear hR
      go_wp2
      go_loopw [3] (fun c wr => ∃ i : Nat, i ≤ l.length ∧ c = .int .i64 i ∧ Hid ((l.all fun y => decide (y.vs.length ≤ 300)) = ((l.drop i).all fun y => decide (y.vs.length ≤ 300))) ∧ Below W0.heap.size W0 wr) (fun c _ => l.length - (intOf c).toNat)
      case atStart => exact ⟨0, by omega, rfl, Lib.hid rfl, Below.refl _ _⟩
      case round =>
        obtain ⟨i, hi, rfl, HD, hbr⟩ := hrel
        have c1 : wr.cell? ⟨w.heap.size, 0, none⟩ = some (.string s) := (hbr.cell (p := ⟨w.heap.size, 0, none⟩) (by show w.heap.size < W0.heap.size; omega)).trans c0
        have c2 : wr.cell? ⟨w.heap.size, 1, none⟩ = some (.slice A l.length cap) := (hbr.cell (p := ⟨w.heap.size, 1, none⟩) (by show w.heap.size < W0.heap.size; omega)).trans c01
        have hbw : Below w.heap.size w wr := b0.trans (hbr.mono (by omega))
        by_cases hlt : i < l.length
        · obtain ⟨g, off, rfl, hg, hc⟩ := (hA.below hbw (Nat.le_refl _)).at_ hlt
          have hk0 : (0 : Int) ≤ (i : Int) := by omega
          have hkl : (i : Int) < (l.length : Int) := by omega
          have p14 : wr.cell? ⟨g, off + i * 15 + 14, none⟩ = some (.slice l[i].V l[i].vs.length l[i].vc) := hc 14 _ rfl
          have hd := HD.out
          rw [List.drop_eq_getElem_cons hlt, List.all_cons] at hd
          generalize l[i] = y at p14 hd
          clear hc HD
          by_cases h3 : y.vs.length ≤ 300
          · have e3 : decide ((300 : Int) < (y.vs.length : Int)) = false := decide_eq_false (by omega)
            rw [decide_eq_true h3, Bool.true_and] at hd
            have HD := Lib.hid hd
            clear hd h3
            go_wp2
            go_roundw
            case rel => exact ⟨i + 1, by omega, by go_num, HD, hbr⟩
            case measure => simp [intOf]; omega
          · have e3 : decide ((300 : Int) < (y.vs.length : Int)) = true := decide_eq_true (by omega)
            rw [decide_eq_false h3, Bool.false_and] at hd
            have hr := HR.out
            rw [hd] at hr
            have HR2 := Lib.hid hr
            clear hd h3 hr HR
            go_wp2
            exact bodyPost_ret (results_tmp rfl _ _ _) rfl ⟨by rw [← HR2.out]; rfl, hbw⟩
        · have e : i = l.length := by omega
          subst e
          have hd := HD.out
          rw [List.drop_length] at hd
          have hr := HR.out
          rw [hd] at hr
          have HR2 := Lib.hid hr
          clear hd hr HR HD
          go_wp2
          exact bodyPost_ret (results_tmp rfl _ _ _) rfl ⟨by rw [← HR2.out]; rfl, hbw⟩
    · have e2 : decide ((300 : Int) < (l.length : Int)) = true := decide_eq_true (by omega)
      rw [if_neg (fun h => h2 h.2)] at hR
      have HR := Lib.hid hR
      clear hR
      go_wp2
      exact bodyPost_ret (results_tmp rfl _ _ _) rfl ⟨by rw [← HR.out]; rfl, b0⟩
  · have e1 : decide ((3145728 : Int) < (s.size : Int)) = true := decide_eq_true (by omega)
    rw [if_neg (fun h => h1 h.1)] at hR
    have HR := Lib.hid hR
    clear hR
    go_wp2
    exact bodyPost_ret (results_tmp rfl _ _ _) rfl ⟨by rw [← HR.out]; rfl, b0⟩

/-- An image that is not too large. -/
structure Img (s : ByteArray) (l : List Itm) : Prop where
  hs : s.size ≤ 3145729
  hl : l.length ≤ 300
  ok : ∀ y ∈ l, y.Ok
  vs : ∀ y ∈ l, y.vs.length ≤ 300
theorem Img.of_few {s : ByteArray} {l : List Itm} (hk : ∀ y ∈ l, y.Ok) (h : fewI s.size l ≠ 0) : Img s l := by
  unfold fewI at h
  split at h
  · rename_i hc
    split at h
    · rename_i ha
      refine ⟨by omega, hc.2, hk, fun y hy => ?_⟩
      have := List.all_eq_true.1 ha y hy
      simpa using this
    · exact absurd rfl h
  · exact absurd rfl h

theorem disj_img {s : ByteArray} {l : List Itm} (I : Img s l) (A : Option Addr) (cap : Nat) (w : World) (hA : ItAt w w.heap.size A l) :
    Calls Tryd.prog 8 #[.agg #[.string s, .slice A l.length cap]] w fun e w' => e = .returned (.bool (disjB s.size 0 l)) ∧ Below w.heap.size w w' :=
  disj_any s l A cap w hA (by have := I.hl; unfold maxLen; omega) (by have := I.hs; unfold maxLen; omega) I.ok
theorem rang_img {s : ByteArray} {l : List Itm} (I : Img s l) (A : Option Addr) (cap : Nat) (w : World) (hA : ItAt w w.heap.size A l) (hw : Laid w) :
    Calls Tryd.prog 9 #[.agg #[.string s, .slice A l.length cap]] w fun e w' => e = .returned (.bool (rangB s.data.toList l 0 l)) ∧ Below w.heap.size w w' :=
  rang_any s l A cap w hA (by have := I.hl; unfold maxLen; omega) (by have := I.hs; omega) I.ok (fun y hy => by have := I.vs y hy; omega) hw

/-- May an image be? -/
noncomputable def chkB (s : ByteArray) (l : List Itm) : Bool := disjB s.size 0 l && rangB s.data.toList l 0 l

set_option maxRecDepth 100000 in
set_option maxHeartbeats 1000000 in
theorem check_img {s : ByteArray} {l : List Itm} (I : Img s l) (A : Option Addr) (cap : Nat) (w : World) (hA : ItAt w w.heap.size A l) (hw : Laid w) :
    Calls Tryd.prog 7 #[.agg #[.string s, .slice A l.length cap]] w fun e w' => e = .returned (.bool (chkB s l)) ∧ Below w.heap.size w w' := by
  have b0 : Below w.heap.size w (w.alloc (.cells #[.string s, .slice A l.length cap] 24)) := (Below.refl _ _).alloc (Nat.le_refl _) _
  have c0 : (w.alloc (.cells #[.string s, .slice A l.length cap] 24)).cell? ⟨w.heap.size, 0, none⟩ = some (.string s) := cell_allocN _ _ _ 0
  have c01 : (w.alloc (.cells #[.string s, .slice A l.length cap] 24)).cell? ⟨w.heap.size, 1, none⟩ = some (.slice A l.length cap) := cell_allocN _ _ _ 1
  have hsz : (w.alloc (.cells #[.string s, .slice A l.length cap] 24)).heap.size = w.heap.size + 1 := by simp
  generalize hW : w.alloc (.cells #[.string s, .slice A l.length cap] 24) = W0 at b0 c0 c01 hsz
  have hD := disj_img I A cap W0 ((hA.below b0 (Nat.le_refl _)).more (by omega))
  have hR := fun (W : World) (h : Below w.heap.size w W) => rang_img I A cap W ((hA.below h (Nat.le_refl _)).more h.size) (laid_below hw h)
  unfold chkB
  generalize disjB s.size 0 l = dB at hD ⊢
  generalize rangB s.data.toList l 0 l = rB at hR ⊢
  go_enter Tryd.func7, Tryd.ntmps7
  go_wp2_with fail
  ((with_reducible refine hD.mono ?_); rintro e w1 ⟨rfl, hb1⟩)
  have h1 : Below w.heap.size w w1 := b0.trans (hb1.mono (by omega))
  have d0 : w1.cell? ⟨w.heap.size, 0, none⟩ = some (.string s) := (hb1.cell (p := ⟨w.heap.size, 0, none⟩) (by show w.heap.size < W0.heap.size; omega)).trans c0
  have d1 : w1.cell? ⟨w.heap.size, 1, none⟩ = some (.slice A l.length cap) := (hb1.cell (p := ⟨w.heap.size, 1, none⟩) (by show w.heap.size < W0.heap.size; omega)).trans c01
  have hR1 := hR w1 h1
  clear hR hD
  cases dB
  · go_wp2_with fail
    exact bodyPost_ret (results_tmp rfl _ _ _) rfl ⟨rfl, h1⟩
  · go_wp2_with fail
    ((with_reducible refine hR1.mono ?_); rintro e w2 ⟨rfl, hb2⟩)
    go_wp2_with fail
    exact bodyPost_ret (results_tmp rfl _ _ _) rfl ⟨by cases rB <;> rfl, h1.trans (hb2.mono h1.size)⟩
#print axioms check_img
end Go.Proofs.YtiicniiecomhjaaDoor
