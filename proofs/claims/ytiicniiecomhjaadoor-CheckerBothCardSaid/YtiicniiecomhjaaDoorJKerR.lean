/- For the seat: texts joined: KerR. -/
import Derived.Test.YtiicniiecomhjaaDoorJKerI
import Derived.Test.YtiicniiecomhjaaDoorJKerP
/- For the seat: Ranges: each item as it should be. -/
namespace Go.Proofs.YtiicniiecomhjaaDoor
open Go.Sx Go.ChangeShapes Go.WideShapes Go.RowKit Go.Joins Go.Deep

theorem rangB_cons (s : List UInt8) (l : List Itm) (it : Int) (y : Itm) (r : List Itm) : rangB s l it (y :: r) =
    if 0 ≤ y.a ∧ y.a ≤ (s.length : Int) ∧ 0 ≤ y.s ∧ y.s ≤ (s.length : Int) - y.a then
      if oneB s.length l y ((s.drop y.a.toNat).take y.s.toNat) it = true then rangB s l (if y.k = 1 then aftI it y.x else it) r else false
    else false := rfl

set_option maxRecDepth 100000 in
set_option maxHeartbeats 4000000 in
theorem rang_any (s : ByteArray) (l : List Itm) (A : Option Addr) (cap : Nat) (w : World) (hA : ItAt w w.heap.size A l) (hl : l.length ≤ maxLen) (hs : s.size ≤ 4000000000) (hk : ∀ y ∈ l, y.Ok) (hvb : ∀ y ∈ l, y.vs.length ≤ 1000000000) (hw : Laid w) :
    Calls Tryd.prog 9 #[.agg #[.string s, .slice A l.length cap]] w fun e w' => e = .returned (.bool (rangB s.data.toList l 0 l)) ∧ Below w.heap.size w w' := by
  have hl0 := hl
  unfold maxLen at hl
  have hsl : s.data.toList.length = s.size := rfl
  have b0 : Below w.heap.size w (w.alloc (.cells #[.string s, .slice A l.length cap] 24)) := (Below.refl _ _).alloc (Nat.le_refl _) _
  have c0 : (w.alloc (.cells #[.string s, .slice A l.length cap] 24)).cell? ⟨w.heap.size, 0, none⟩ = some (.string s) := cell_allocN _ _ _ 0
  have c01 : (w.alloc (.cells #[.string s, .slice A l.length cap] 24)).cell? ⟨w.heap.size, 1, none⟩ = some (.slice A l.length cap) := cell_allocN _ _ _ 1
  have hsz : (w.alloc (.cells #[.string s, .slice A l.length cap] 24)).heap.size = w.heap.size + 1 := by simp
  generalize hW : w.alloc (.cells #[.string s, .slice A l.length cap] 24) = W0 at b0 c0 c01 hsz
  go_enter Tryd.func9, Tryd.ntmps9
  go_wp2
  go_loopw [3, 10] (fun p c wr => ∃ (i : Nat) (q : Int), i ≤ l.length ∧ c = .int .i64 i ∧ p = .int .i64 q ∧ Hid (kHas .i64 q ∧ rangB s.data.toList l 0 l = rangB s.data.toList l q (l.drop i)) ∧ Below W0.heap.size W0 wr) (fun _ c _ => l.length - (intOf c).toNat)
  case atStart => exact ⟨0, 0, by omega, rfl, rfl, Lib.hid ⟨zero_has, rfl⟩, Below.refl _ _⟩
  case round =>
    obtain ⟨i, q, hi, rfl, rfl, HD, hbr⟩ := hrel
    have c1 : wr.cell? ⟨w.heap.size, 0, none⟩ = some (.string s) := (hbr.cell (p := ⟨w.heap.size, 0, none⟩) (by show w.heap.size < W0.heap.size; omega)).trans c0
    have c2 : wr.cell? ⟨w.heap.size, 1, none⟩ = some (.slice A l.length cap) := (hbr.cell (p := ⟨w.heap.size, 1, none⟩) (by show w.heap.size < W0.heap.size; omega)).trans c01
    have hbw : Below w.heap.size w wr := b0.trans (hbr.mono (by omega))
    have hwz : w.heap.size < wr.heap.size := by have := hbr.size; omega
    by_cases hlt : i < l.length
    · obtain ⟨g, off, rfl, hg, hc⟩ := (hA.below hbw (Nat.le_refl _)).at_ hlt
      have hk0 : (0 : Int) ≤ (i : Int) := by omega
      have hkl : (i : Int) < (l.length : Int) := by omega
      have IN := itIn_of hc
      have hd := HD.out.2
      rw [List.drop_eq_getElem_cons hlt, rangB_cons] at hd
      have hq0 := HD.out.1
      have hy := hk l[i] (List.getElem_mem hlt)
      have hyv := hvb l[i] (List.getElem_mem hlt)
      have hyA := hA.2 l[i] (List.getElem_mem hlt)
      generalize l[i] = y at hd IN hy hyv hyA
      clear hc HD
      obtain ⟨k, a, sz, f, ln, x, V, vc, vs⟩ := y
      obtain ⟨x0, x1, x2, x3, x4, x5, x6, x7, xb⟩ := x
      obtain ⟨p0, p1, p2, p3, p4, p5, p6, p7, p8, p9, p10, p11, p12, p13, p14⟩ := IN
      dsimp only at hd hyv hyA p0 p1 p2 p3 p4 p5 p6 p7 p8 p9 p10 p11 p12 p13 p14
      rw [hsl] at hd
      have hfin : ∀ o, Below w.heap.size w (wr.alloc o) := fun o => hbw.alloc hbw.size o
      by_cases h1 : a < 0
      · have hr : rangB s.data.toList l 0 l = false := by rw [hd, if_neg (by omega)]
        have e1 : decide (a < 0) = true := decide_eq_true h1
        have HR := Lib.hid hr
        clear hd hr
        go_wp2
        exact bodyPost_ret (results_tmp rfl _ _ _) rfl ⟨by rw [HR.out]; rfl, hfin _⟩
      have e1 : decide (a < 0) = false := decide_eq_false h1
      by_cases h2 : (s.size : Int) < a
      · have hr : rangB s.data.toList l 0 l = false := by rw [hd, if_neg (by omega)]
        have e2 : decide ((s.size : Int) < a) = true := decide_eq_true h2
        have HR := Lib.hid hr
        clear hd hr
        go_wp2
        exact bodyPost_ret (results_tmp rfl _ _ _) rfl ⟨by rw [HR.out]; rfl, hfin _⟩
      have e2 : decide ((s.size : Int) < a) = false := decide_eq_false h2
      by_cases h3 : sz < 0
      · have hr : rangB s.data.toList l 0 l = false := by rw [hd, if_neg (by omega)]
        have e3 : decide (sz < 0) = true := decide_eq_true h3
        have HR := Lib.hid hr
        clear hd hr
        go_wp2
        exact bodyPost_ret (results_tmp rfl _ _ _) rfl ⟨by rw [HR.out]; rfl, hfin _⟩
      have e3 : decide (sz < 0) = false := decide_eq_false h3
      have hsub : IntKind.i64.wrap ((s.size : Int) - a) = (s.size : Int) - a := IntWalk.i64_in _ (by omega)
      by_cases h4 : (s.size : Int) - a < sz
      · have hr : rangB s.data.toList l 0 l = false := by rw [hd, if_neg (by omega)]
        have e4 : decide ((s.size : Int) - a < sz) = true := decide_eq_true h4
        have HR := Lib.hid hr
        clear hd hr
        go_wp2
        exact bodyPost_ret (results_tmp rfl _ _ _) rfl ⟨by rw [HR.out]; rfl, hfin _⟩
      have e4 : decide ((s.size : Int) - a < sz) = false := decide_eq_false h4
      have hadd : IntKind.i64.wrap (a + sz) = a + sz := IntWalk.i64_in _ (by omega)
      have s0 : (0 : Int) ≤ a := by omega
      have s1 : a ≤ a + sz := by omega
      have s2 : a + sz ≤ (s.size : Int) := by omega
      rw [if_pos ⟨by omega, by omega, by omega, by omega⟩] at hd
      have hex : (s.extract a.toNat (a + sz).toNat).data.toList = (s.data.toList.drop a.toNat).take sz.toNat := by
        rw [Lib.extract_data, show (a + sz).toNat - a.toNat = sz.toNat by omega]
      have hps : ((s.extract a.toNat (a + sz).toNat).size : Int) = sz := by
        have h : (s.extract a.toNat (a + sz).toNat).data.toList.length = (s.extract a.toNat (a + sz).toNat).size := rfl
        rw [hex, List.length_take, List.length_drop, hsl] at h
        omega
      rw [← hex] at hd
      have hpl : (s.extract a.toNat (a + sz).toNat).size ≤ 4000000000 := by omega
      have haf := fun (W : World) (hW : Laid W) => (aft_p hq0 hy.x).go (w := W) hW
      have hah := aft_has hq0 hy.x
      have CI := fun (W : World) (h : Below w.heap.size w W) => insi_any s l (some ⟨g, off, none⟩) cap ⟨k, a, sz, f, ln, ⟨x0, x1, x2, x3, x4, x5, x6, x7, xb⟩, V, vc, vs⟩ (s.extract a.toNat (a + sz).toNat) q W ((hA.below h (Nat.le_refl _)).more h.size) hl0 hy hpl (laid_below hw h)
      have CP := fun (W : World) (h : Below w.heap.size w W) => pool_any s (some ⟨g, off, none⟩) l.length cap ⟨k, a, sz, f, ln, ⟨x0, x1, x2, x3, x4, x5, x6, x7, xb⟩, V, vc, vs⟩ (s.extract a.toNat (a + sz).toNat) q W hy ((hyA.below h (Nat.le_refl _)).more h.size) hyv hpl hps
      have CA := fun (W : World) => pad_any s (some ⟨g, off, none⟩) l.length cap ⟨k, a, sz, f, ln, ⟨x0, x1, x2, x3, x4, x5, x6, x7, xb⟩, V, vc, vs⟩ (s.extract a.toNat (a + sz).toNat) q W (by unfold maxLen; omega)
      have CN := fun (W : World) => anyi_any s (some ⟨g, off, none⟩) l.length cap ⟨k, a, sz, f, ln, ⟨x0, x1, x2, x3, x4, x5, x6, x7, xb⟩, V, vc, vs⟩ (s.extract a.toNat (a + sz).toNat) q W
      dsimp only [imgV] at CI CP CA CN
      unfold oneB at hd
      dsimp only at hd
      generalize insB s.size l ⟨k, a, sz, f, ln, ⟨x0, x1, x2, x3, x4, x5, x6, x7, xb⟩, V, vc, vs⟩ (s.extract a.toNat (a + sz).toNat).data.toList q = rI at CI hd
      generalize poolB ⟨k, a, sz, f, ln, ⟨x0, x1, x2, x3, x4, x5, x6, x7, xb⟩, V, vc, vs⟩ (s.extract a.toNat (a + sz).toNat).data.toList = rP at CP hd
      generalize ((s.extract a.toNat (a + sz).toNat).data.toList.all fun x => x == 0) = rA at CA hd
      generalize hPP : s.extract a.toNat (a + sz).toNat = P at *
      clear hex hps hpl hsl hy hyA hyv hk hvb h1 h2 h3 h4
      have BX : Below W0.heap.size W0 (wr.alloc (.cells #[.int .i64 k, .int .i64 a, .int .i64 sz, .int .i64 f, .int .i64 ln, .int .i64 x0, .int .i64 x1, .int .i64 x2, .int .i64 x3, .int .i64 x4, .int .i64 x5, .int .i64 x6, .int .i64 x7, .bool xb, .slice V vs.length vc] 32)) := hbr.alloc hbr.size _
      have BXw : Below w.heap.size w (wr.alloc (.cells #[.int .i64 k, .int .i64 a, .int .i64 sz, .int .i64 f, .int .i64 ln, .int .i64 x0, .int .i64 x1, .int .i64 x2, .int .i64 x3, .int .i64 x4, .int .i64 x5, .int .i64 x6, .int .i64 x7, .bool xb, .slice V vs.length vc] 32)) := hfin _
      have hZ : (wr.alloc (.cells #[.int .i64 k, .int .i64 a, .int .i64 sz, .int .i64 f, .int .i64 ln, .int .i64 x0, .int .i64 x1, .int .i64 x2, .int .i64 x3, .int .i64 x4, .int .i64 x5, .int .i64 x6, .int .i64 x7, .bool xb, .slice V vs.length vc] 32)).heap.size = wr.heap.size + 1 := by simp
      have kN := cell_allocN wr #[.int .i64 k, .int .i64 a, .int .i64 sz, .int .i64 f, .int .i64 ln, .int .i64 x0, .int .i64 x1, .int .i64 x2, .int .i64 x3, .int .i64 x4, .int .i64 x5, .int .i64 x6, .int .i64 x7, .bool xb, .slice V vs.length vc] 32
      have kc0 : (wr.alloc (.cells #[.int .i64 k, .int .i64 a, .int .i64 sz, .int .i64 f, .int .i64 ln, .int .i64 x0, .int .i64 x1, .int .i64 x2, .int .i64 x3, .int .i64 x4, .int .i64 x5, .int .i64 x6, .int .i64 x7, .bool xb, .slice V vs.length vc] 32)).cell? ⟨w.heap.size, 0, none⟩ = some (.string s) := (BX.cell (p := ⟨w.heap.size, 0, none⟩) (by show w.heap.size < W0.heap.size; omega)).trans c0
      have kc1 : (wr.alloc (.cells #[.int .i64 k, .int .i64 a, .int .i64 sz, .int .i64 f, .int .i64 ln, .int .i64 x0, .int .i64 x1, .int .i64 x2, .int .i64 x3, .int .i64 x4, .int .i64 x5, .int .i64 x6, .int .i64 x7, .bool xb, .slice V vs.length vc] 32)).cell? ⟨w.heap.size, 1, none⟩ = some (.slice (some ⟨g, off, none⟩) l.length cap) := (BX.cell (p := ⟨w.heap.size, 1, none⟩) (by show w.heap.size < W0.heap.size; omega)).trans c01
      have kS : ∀ w' : World, Below (wr.alloc (.cells #[.int .i64 k, .int .i64 a, .int .i64 sz, .int .i64 f, .int .i64 ln, .int .i64 x0, .int .i64 x1, .int .i64 x2, .int .i64 x3, .int .i64 x4, .int .i64 x5, .int .i64 x6, .int .i64 x7, .bool xb, .slice V vs.length vc] 32)).drew.heap.size (wr.alloc (.cells #[.int .i64 k, .int .i64 a, .int .i64 sz, .int .i64 f, .int .i64 ln, .int .i64 x0, .int .i64 x1, .int .i64 x2, .int .i64 x3, .int .i64 x4, .int .i64 x5, .int .i64 x6, .int .i64 x7, .bool xb, .slice V vs.length vc] 32)).drew w' → (w'.cell? ⟨w.heap.size, 0, none⟩ = some (.string s) ∧ w'.cell? ⟨w.heap.size, 1, none⟩ = some (.slice (some ⟨g, off, none⟩) l.length cap) ∧ w'.cell? ⟨wr.heap.size, 0, none⟩ = some (.int .i64 k) ∧ w'.cell? ⟨wr.heap.size, 1, none⟩ = some (.int .i64 a) ∧ w'.cell? ⟨wr.heap.size, 2, none⟩ = some (.int .i64 sz) ∧ w'.cell? ⟨wr.heap.size, 3, none⟩ = some (.int .i64 f) ∧ w'.cell? ⟨wr.heap.size, 4, none⟩ = some (.int .i64 ln) ∧ w'.cell? ⟨wr.heap.size, 5, none⟩ = some (.int .i64 x0) ∧ w'.cell? ⟨wr.heap.size, 6, none⟩ = some (.int .i64 x1) ∧ w'.cell? ⟨wr.heap.size, 7, none⟩ = some (.int .i64 x2) ∧ w'.cell? ⟨wr.heap.size, 8, none⟩ = some (.int .i64 x3) ∧ w'.cell? ⟨wr.heap.size, 9, none⟩ = some (.int .i64 x4) ∧ w'.cell? ⟨wr.heap.size, 10, none⟩ = some (.int .i64 x5) ∧ w'.cell? ⟨wr.heap.size, 11, none⟩ = some (.int .i64 x6) ∧ w'.cell? ⟨wr.heap.size, 12, none⟩ = some (.int .i64 x7) ∧ w'.cell? ⟨wr.heap.size, 13, none⟩ = some (.bool xb) ∧ w'.cell? ⟨wr.heap.size, 14, none⟩ = some (.slice V vs.length vc)) := fun w' h =>
        have e := fun o => h.cell (p := ⟨wr.heap.size, o, none⟩) (show wr.heap.size < (wr.alloc (.cells #[.int .i64 k, .int .i64 a, .int .i64 sz, .int .i64 f, .int .i64 ln, .int .i64 x0, .int .i64 x1, .int .i64 x2, .int .i64 x3, .int .i64 x4, .int .i64 x5, .int .i64 x6, .int .i64 x7, .bool xb, .slice V vs.length vc] 32)).heap.size by rw [hZ]; omega)
        have e' := fun o => h.cell (p := ⟨w.heap.size, o, none⟩) (show w.heap.size < (wr.alloc (.cells #[.int .i64 k, .int .i64 a, .int .i64 sz, .int .i64 f, .int .i64 ln, .int .i64 x0, .int .i64 x1, .int .i64 x2, .int .i64 x3, .int .i64 x4, .int .i64 x5, .int .i64 x6, .int .i64 x7, .bool xb, .slice V vs.length vc] 32)).heap.size by rw [hZ]; omega)
        ⟨(e' 0).trans kc0, (e' 1).trans kc1, (e 0).trans (kN 0), (e 1).trans (kN 1), (e 2).trans (kN 2), (e 3).trans (kN 3), (e 4).trans (kN 4), (e 5).trans (kN 5), (e 6).trans (kN 6), (e 7).trans (kN 7), (e 8).trans (kN 8), (e 9).trans (kN 9), (e 10).trans (kN 10), (e 11).trans (kN 11), (e 12).trans (kN 12), (e 13).trans (kN 13), (e 14).trans (kN 14)⟩
      have HD := Lib.hid hd
      clear hd kN kc0 kc1
      by_cases k1 : k = 1
      · have q1 : (k == 1) = true := by rw [k1]; rfl
        cases rI
        · have hd := HD.out
          rw [if_pos k1, if_neg (by decide)] at hd
          replace HD := Lib.hid hd
          clear hd k1
          go_wp2_with fail
          go_region_held3 (fun w' => w'.cell? ⟨w.heap.size, 0, none⟩ = some (.string s) ∧ w'.cell? ⟨w.heap.size, 1, none⟩ = some (.slice (some ⟨g, off, none⟩) l.length cap) ∧ w'.cell? ⟨wr.heap.size, 0, none⟩ = some (.int .i64 k) ∧ w'.cell? ⟨wr.heap.size, 1, none⟩ = some (.int .i64 a) ∧ w'.cell? ⟨wr.heap.size, 2, none⟩ = some (.int .i64 sz) ∧ w'.cell? ⟨wr.heap.size, 3, none⟩ = some (.int .i64 f) ∧ w'.cell? ⟨wr.heap.size, 4, none⟩ = some (.int .i64 ln) ∧ w'.cell? ⟨wr.heap.size, 5, none⟩ = some (.int .i64 x0) ∧ w'.cell? ⟨wr.heap.size, 6, none⟩ = some (.int .i64 x1) ∧ w'.cell? ⟨wr.heap.size, 7, none⟩ = some (.int .i64 x2) ∧ w'.cell? ⟨wr.heap.size, 8, none⟩ = some (.int .i64 x3) ∧ w'.cell? ⟨wr.heap.size, 9, none⟩ = some (.int .i64 x4) ∧ w'.cell? ⟨wr.heap.size, 10, none⟩ = some (.int .i64 x5) ∧ w'.cell? ⟨wr.heap.size, 11, none⟩ = some (.int .i64 x6) ∧ w'.cell? ⟨wr.heap.size, 12, none⟩ = some (.int .i64 x7) ∧ w'.cell? ⟨wr.heap.size, 13, none⟩ = some (.bool xb) ∧ w'.cell? ⟨wr.heap.size, 14, none⟩ = some (.slice V vs.length vc))
            (first
              | (with_reducible exact kS _ hb4)
              | go_keep)
            (first
              | (go_at_call 11; refine (CI _ BXw.drew).mono ?_; rintro e w4 ⟨rfl, hb4⟩))
          have hB4 : Below W0.heap.size W0 w4 := BX.drew.trans (hb4.mono BX.size)
          obtain ⟨-, -, m0, -, -, -, -, m5, m6, m7, m8, m9, m10, m11, m12, m13, -⟩ := kS _ hb4
          clear kS
          go_wp2_with fail
          exact bodyPost_ret (results_tmp rfl _ _ _) rfl ⟨by rw [HD.out]; rfl, b0.trans (hB4.mono (by omega))⟩
        · have hd := HD.out
          rw [if_pos k1, if_pos rfl, if_pos k1] at hd
          have HN := Lib.hid (And.intro hah hd)
          clear hd k1 HD
          go_wp2_with fail
          go_region_held3 (fun w' => w'.cell? ⟨w.heap.size, 0, none⟩ = some (.string s) ∧ w'.cell? ⟨w.heap.size, 1, none⟩ = some (.slice (some ⟨g, off, none⟩) l.length cap) ∧ w'.cell? ⟨wr.heap.size, 0, none⟩ = some (.int .i64 k) ∧ w'.cell? ⟨wr.heap.size, 1, none⟩ = some (.int .i64 a) ∧ w'.cell? ⟨wr.heap.size, 2, none⟩ = some (.int .i64 sz) ∧ w'.cell? ⟨wr.heap.size, 3, none⟩ = some (.int .i64 f) ∧ w'.cell? ⟨wr.heap.size, 4, none⟩ = some (.int .i64 ln) ∧ w'.cell? ⟨wr.heap.size, 5, none⟩ = some (.int .i64 x0) ∧ w'.cell? ⟨wr.heap.size, 6, none⟩ = some (.int .i64 x1) ∧ w'.cell? ⟨wr.heap.size, 7, none⟩ = some (.int .i64 x2) ∧ w'.cell? ⟨wr.heap.size, 8, none⟩ = some (.int .i64 x3) ∧ w'.cell? ⟨wr.heap.size, 9, none⟩ = some (.int .i64 x4) ∧ w'.cell? ⟨wr.heap.size, 10, none⟩ = some (.int .i64 x5) ∧ w'.cell? ⟨wr.heap.size, 11, none⟩ = some (.int .i64 x6) ∧ w'.cell? ⟨wr.heap.size, 12, none⟩ = some (.int .i64 x7) ∧ w'.cell? ⟨wr.heap.size, 13, none⟩ = some (.bool xb) ∧ w'.cell? ⟨wr.heap.size, 14, none⟩ = some (.slice V vs.length vc))
            (first
              | (with_reducible exact kS _ hb4)
              | go_keep)
            (first
              | (go_at_call 11; refine (CI _ BXw.drew).mono ?_; rintro e w4 ⟨rfl, hb4⟩))
          have hB4 : Below W0.heap.size W0 w4 := BX.drew.trans (hb4.mono BX.size)
          obtain ⟨-, -, m0, -, -, -, -, m5, m6, m7, m8, m9, m10, m11, m12, m13, -⟩ := kS _ hb4
          clear kS
          have haf4 := haf w4 (laid_below hw (b0.trans (hB4.mono (by omega))))
          dsimp only [Fields.val] at haf4
          clear haf
          go_wp2_with fail
          ((with_reducible refine haf4.mono ?_); rintro e w5 ⟨rfl, hb5⟩)
          go_wp2_with fail
          go_roundw
          case rel => exact ⟨i + 1, _, by omega, by go_num, rfl, HN, hB4.trans (hb5.mono hB4.size)⟩
          case measure => simp [intOf]; omega
      · have q1 : (k == 1) = false := by simpa using k1
        by_cases k4 : k = 4
        · have q4 : (k == 4) = true := by rw [k4]; rfl
          cases rP
          · have hd := HD.out
            rw [if_neg k1, if_pos k4, if_neg (by decide)] at hd
            replace HD := Lib.hid hd
            clear hd k1 k4
            go_wp2_with fail
            go_region_held3 (fun w' => w'.cell? ⟨w.heap.size, 0, none⟩ = some (.string s) ∧ w'.cell? ⟨w.heap.size, 1, none⟩ = some (.slice (some ⟨g, off, none⟩) l.length cap) ∧ w'.cell? ⟨wr.heap.size, 0, none⟩ = some (.int .i64 k) ∧ w'.cell? ⟨wr.heap.size, 1, none⟩ = some (.int .i64 a) ∧ w'.cell? ⟨wr.heap.size, 2, none⟩ = some (.int .i64 sz) ∧ w'.cell? ⟨wr.heap.size, 3, none⟩ = some (.int .i64 f) ∧ w'.cell? ⟨wr.heap.size, 4, none⟩ = some (.int .i64 ln) ∧ w'.cell? ⟨wr.heap.size, 5, none⟩ = some (.int .i64 x0) ∧ w'.cell? ⟨wr.heap.size, 6, none⟩ = some (.int .i64 x1) ∧ w'.cell? ⟨wr.heap.size, 7, none⟩ = some (.int .i64 x2) ∧ w'.cell? ⟨wr.heap.size, 8, none⟩ = some (.int .i64 x3) ∧ w'.cell? ⟨wr.heap.size, 9, none⟩ = some (.int .i64 x4) ∧ w'.cell? ⟨wr.heap.size, 10, none⟩ = some (.int .i64 x5) ∧ w'.cell? ⟨wr.heap.size, 11, none⟩ = some (.int .i64 x6) ∧ w'.cell? ⟨wr.heap.size, 12, none⟩ = some (.int .i64 x7) ∧ w'.cell? ⟨wr.heap.size, 13, none⟩ = some (.bool xb) ∧ w'.cell? ⟨wr.heap.size, 14, none⟩ = some (.slice V vs.length vc))
              (first
                | (with_reducible exact kS _ hb4)
                | go_keep)
              (first
                | (go_at_call 12; refine (CP _ BXw.drew).mono ?_; rintro e w4 ⟨rfl, hb4⟩))
            have hB4 : Below W0.heap.size W0 w4 := BX.drew.trans (hb4.mono BX.size)
            obtain ⟨-, -, m0, -, -, -, -, m5, m6, m7, m8, m9, m10, m11, m12, m13, -⟩ := kS _ hb4
            clear kS
            go_wp2_with fail
            exact bodyPost_ret (results_tmp rfl _ _ _) rfl ⟨by rw [HD.out]; rfl, b0.trans (hB4.mono (by omega))⟩
          · have hd := HD.out
            rw [if_neg k1, if_pos k4, if_pos rfl, if_neg k1] at hd
            have HN := Lib.hid (And.intro hq0 hd)
            clear hd k1 k4 HD
            go_wp2_with fail
            go_region_held3 (fun w' => w'.cell? ⟨w.heap.size, 0, none⟩ = some (.string s) ∧ w'.cell? ⟨w.heap.size, 1, none⟩ = some (.slice (some ⟨g, off, none⟩) l.length cap) ∧ w'.cell? ⟨wr.heap.size, 0, none⟩ = some (.int .i64 k) ∧ w'.cell? ⟨wr.heap.size, 1, none⟩ = some (.int .i64 a) ∧ w'.cell? ⟨wr.heap.size, 2, none⟩ = some (.int .i64 sz) ∧ w'.cell? ⟨wr.heap.size, 3, none⟩ = some (.int .i64 f) ∧ w'.cell? ⟨wr.heap.size, 4, none⟩ = some (.int .i64 ln) ∧ w'.cell? ⟨wr.heap.size, 5, none⟩ = some (.int .i64 x0) ∧ w'.cell? ⟨wr.heap.size, 6, none⟩ = some (.int .i64 x1) ∧ w'.cell? ⟨wr.heap.size, 7, none⟩ = some (.int .i64 x2) ∧ w'.cell? ⟨wr.heap.size, 8, none⟩ = some (.int .i64 x3) ∧ w'.cell? ⟨wr.heap.size, 9, none⟩ = some (.int .i64 x4) ∧ w'.cell? ⟨wr.heap.size, 10, none⟩ = some (.int .i64 x5) ∧ w'.cell? ⟨wr.heap.size, 11, none⟩ = some (.int .i64 x6) ∧ w'.cell? ⟨wr.heap.size, 12, none⟩ = some (.int .i64 x7) ∧ w'.cell? ⟨wr.heap.size, 13, none⟩ = some (.bool xb) ∧ w'.cell? ⟨wr.heap.size, 14, none⟩ = some (.slice V vs.length vc))
              (first
                | (with_reducible exact kS _ hb4)
                | go_keep)
              (first
                | (go_at_call 12; refine (CP _ BXw.drew).mono ?_; rintro e w4 ⟨rfl, hb4⟩))
            have hB4 : Below W0.heap.size W0 w4 := BX.drew.trans (hb4.mono BX.size)
            obtain ⟨-, -, m0, -, -, -, -, m5, m6, m7, m8, m9, m10, m11, m12, m13, -⟩ := kS _ hb4
            clear kS
            go_wp2_with fail
            go_roundw
            case rel => exact ⟨i + 1, q, by omega, by go_num, rfl, HN, hB4⟩
            case measure => simp [intOf]; omega
        · have q4 : (k == 4) = false := by simpa using k4
          by_cases k3 : k = 3
          · have q3 : (k == 3) = true := by rw [k3]; rfl
            cases rA
            · have hd := HD.out
              rw [if_neg k1, if_neg k4, if_pos k3, if_neg (by decide)] at hd
              replace HD := Lib.hid hd
              clear hd k1 k4 k3
              go_wp2_with fail
              go_region_held3 (fun w' => w'.cell? ⟨w.heap.size, 0, none⟩ = some (.string s) ∧ w'.cell? ⟨w.heap.size, 1, none⟩ = some (.slice (some ⟨g, off, none⟩) l.length cap) ∧ w'.cell? ⟨wr.heap.size, 0, none⟩ = some (.int .i64 k) ∧ w'.cell? ⟨wr.heap.size, 1, none⟩ = some (.int .i64 a) ∧ w'.cell? ⟨wr.heap.size, 2, none⟩ = some (.int .i64 sz) ∧ w'.cell? ⟨wr.heap.size, 3, none⟩ = some (.int .i64 f) ∧ w'.cell? ⟨wr.heap.size, 4, none⟩ = some (.int .i64 ln) ∧ w'.cell? ⟨wr.heap.size, 5, none⟩ = some (.int .i64 x0) ∧ w'.cell? ⟨wr.heap.size, 6, none⟩ = some (.int .i64 x1) ∧ w'.cell? ⟨wr.heap.size, 7, none⟩ = some (.int .i64 x2) ∧ w'.cell? ⟨wr.heap.size, 8, none⟩ = some (.int .i64 x3) ∧ w'.cell? ⟨wr.heap.size, 9, none⟩ = some (.int .i64 x4) ∧ w'.cell? ⟨wr.heap.size, 10, none⟩ = some (.int .i64 x5) ∧ w'.cell? ⟨wr.heap.size, 11, none⟩ = some (.int .i64 x6) ∧ w'.cell? ⟨wr.heap.size, 12, none⟩ = some (.int .i64 x7) ∧ w'.cell? ⟨wr.heap.size, 13, none⟩ = some (.bool xb) ∧ w'.cell? ⟨wr.heap.size, 14, none⟩ = some (.slice V vs.length vc))
                (first
                  | (with_reducible exact kS _ hb4)
                  | go_keep)
                (first
                  | (go_at_call 13; refine (CA _).mono ?_; rintro e w4 ⟨rfl, hb4⟩))
              have hB4 : Below W0.heap.size W0 w4 := BX.drew.trans (hb4.mono BX.size)
              obtain ⟨-, -, m0, -, -, -, -, m5, m6, m7, m8, m9, m10, m11, m12, m13, -⟩ := kS _ hb4
              clear kS
              go_wp2_with fail
              exact bodyPost_ret (results_tmp rfl _ _ _) rfl ⟨by rw [HD.out]; rfl, b0.trans (hB4.mono (by omega))⟩
            · have hd := HD.out
              rw [if_neg k1, if_neg k4, if_pos k3, if_pos rfl, if_neg k1] at hd
              have HN := Lib.hid (And.intro hq0 hd)
              clear hd k1 k4 k3 HD
              go_wp2_with fail
              go_region_held3 (fun w' => w'.cell? ⟨w.heap.size, 0, none⟩ = some (.string s) ∧ w'.cell? ⟨w.heap.size, 1, none⟩ = some (.slice (some ⟨g, off, none⟩) l.length cap) ∧ w'.cell? ⟨wr.heap.size, 0, none⟩ = some (.int .i64 k) ∧ w'.cell? ⟨wr.heap.size, 1, none⟩ = some (.int .i64 a) ∧ w'.cell? ⟨wr.heap.size, 2, none⟩ = some (.int .i64 sz) ∧ w'.cell? ⟨wr.heap.size, 3, none⟩ = some (.int .i64 f) ∧ w'.cell? ⟨wr.heap.size, 4, none⟩ = some (.int .i64 ln) ∧ w'.cell? ⟨wr.heap.size, 5, none⟩ = some (.int .i64 x0) ∧ w'.cell? ⟨wr.heap.size, 6, none⟩ = some (.int .i64 x1) ∧ w'.cell? ⟨wr.heap.size, 7, none⟩ = some (.int .i64 x2) ∧ w'.cell? ⟨wr.heap.size, 8, none⟩ = some (.int .i64 x3) ∧ w'.cell? ⟨wr.heap.size, 9, none⟩ = some (.int .i64 x4) ∧ w'.cell? ⟨wr.heap.size, 10, none⟩ = some (.int .i64 x5) ∧ w'.cell? ⟨wr.heap.size, 11, none⟩ = some (.int .i64 x6) ∧ w'.cell? ⟨wr.heap.size, 12, none⟩ = some (.int .i64 x7) ∧ w'.cell? ⟨wr.heap.size, 13, none⟩ = some (.bool xb) ∧ w'.cell? ⟨wr.heap.size, 14, none⟩ = some (.slice V vs.length vc))
                (first
                  | (with_reducible exact kS _ hb4)
                  | go_keep)
                (first
                  | (go_at_call 13; refine (CA _).mono ?_; rintro e w4 ⟨rfl, hb4⟩))
              have hB4 : Below W0.heap.size W0 w4 := BX.drew.trans (hb4.mono BX.size)
              obtain ⟨-, -, m0, -, -, -, -, m5, m6, m7, m8, m9, m10, m11, m12, m13, -⟩ := kS _ hb4
              clear kS
              go_wp2_with fail
              go_roundw
              case rel => exact ⟨i + 1, q, by omega, by go_num, rfl, HN, hB4⟩
              case measure => simp [intOf]; omega
          · have q3 : (k == 3) = false := by simpa using k3
            have hd := HD.out
            rw [if_neg k1, if_neg k4, if_neg k3, if_pos rfl, if_neg k1] at hd
            have HN := Lib.hid (And.intro hq0 hd)
            clear hd k1 k3 k4 HD
            go_wp2_with fail
            go_region_held3 (fun w' => w'.cell? ⟨w.heap.size, 0, none⟩ = some (.string s) ∧ w'.cell? ⟨w.heap.size, 1, none⟩ = some (.slice (some ⟨g, off, none⟩) l.length cap) ∧ w'.cell? ⟨wr.heap.size, 0, none⟩ = some (.int .i64 k) ∧ w'.cell? ⟨wr.heap.size, 1, none⟩ = some (.int .i64 a) ∧ w'.cell? ⟨wr.heap.size, 2, none⟩ = some (.int .i64 sz) ∧ w'.cell? ⟨wr.heap.size, 3, none⟩ = some (.int .i64 f) ∧ w'.cell? ⟨wr.heap.size, 4, none⟩ = some (.int .i64 ln) ∧ w'.cell? ⟨wr.heap.size, 5, none⟩ = some (.int .i64 x0) ∧ w'.cell? ⟨wr.heap.size, 6, none⟩ = some (.int .i64 x1) ∧ w'.cell? ⟨wr.heap.size, 7, none⟩ = some (.int .i64 x2) ∧ w'.cell? ⟨wr.heap.size, 8, none⟩ = some (.int .i64 x3) ∧ w'.cell? ⟨wr.heap.size, 9, none⟩ = some (.int .i64 x4) ∧ w'.cell? ⟨wr.heap.size, 10, none⟩ = some (.int .i64 x5) ∧ w'.cell? ⟨wr.heap.size, 11, none⟩ = some (.int .i64 x6) ∧ w'.cell? ⟨wr.heap.size, 12, none⟩ = some (.int .i64 x7) ∧ w'.cell? ⟨wr.heap.size, 13, none⟩ = some (.bool xb) ∧ w'.cell? ⟨wr.heap.size, 14, none⟩ = some (.slice V vs.length vc))
              (first
                | (with_reducible exact kS _ hb4)
                | go_keep)
              (first
                | (go_at_call 10; refine (CN _).mono ?_; rintro e w4 ⟨rfl, hb4⟩))
            have hB4 : Below W0.heap.size W0 w4 := BX.drew.trans (hb4.mono BX.size)
            obtain ⟨-, -, m0, -, -, -, -, m5, m6, m7, m8, m9, m10, m11, m12, m13, -⟩ := kS _ hb4
            clear kS
            go_wp2_with fail
            go_roundw
            case rel => exact ⟨i + 1, q, by omega, by go_num, rfl, HN, hB4⟩
            case measure => simp [intOf]; omega
    · have e : i = l.length := by omega
      subst e
      have hd := HD.out.2
      rw [List.drop_length] at hd
      go_wp2
      exact bodyPost_ret (results_tmp rfl _ _ _) rfl ⟨by rw [hd]; rfl, hbw⟩
#print axioms rang_any
end Go.Proofs.YtiicniiecomhjaaDoor
