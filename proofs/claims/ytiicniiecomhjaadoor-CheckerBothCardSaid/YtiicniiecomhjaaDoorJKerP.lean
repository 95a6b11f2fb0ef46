/- For the seat: texts joined: KerP. -/
import Derived.Test.YtiicniiecomhjaaDoorJKerS
import Derived.Test.YtiicniiecomhjaaDoorJKerU
import Derived.WalkSpells
/- For the seat: a pool that is looked at. -/
namespace Go.Proofs.YtiicniiecomhjaaDoor
open Go.Sx Go.ChangeShapes Go.WideShapes Go.RowKit Go.Joins Go.Deep

theorem poolG_cons (vs : List Int) (s : List UInt8) (i : Nat) (v : Int) (r : List Int) : poolG vs s i (v :: r) = if v = wordB ((s.drop (4 * i)).take 4) ∧ indexI vs v = i then poolG vs s (i + 1) r else false := rfl

/-- Four bytes are two halfwords. -/
theorem unpB_four {l : List UInt8} (h : l.length = 4) : ∃ a b, unpB l = [a, b] := by
  match l, h with
  | [a, b, c, d], _ => exact ⟨_, _, rfl⟩

set_option maxRecDepth 100000 in
set_option maxHeartbeats 2000000 in
theorem pool_any (s : ByteArray) (A : Option Addr) (n cap : Nat) (y : Itm) (p : ByteArray) (it : Int) (w : World) (hy : y.Ok) (hV : IAt w w.heap.size y.V y.vs) (hvb : y.vs.length ≤ 1000000000) (hp : p.size ≤ 4000000000) (hps : (p.size : Int) = y.s) :
    Calls Tryd.prog 12 #[imgV s A n cap y p it] w fun e w' => e = .returned (.bool (poolB y p.data.toList)) ∧ Below w.heap.size w w' := by
  unfold poolB
  have hvl := hy.len
  unfold maxLen at hvl
  obtain ⟨k, a, sz, f, ln, x, V, vc, vs⟩ := y
  obtain ⟨x0, x1, x2, x3, x4, x5, x6, x7, xb⟩ := x
  dsimp only [imgV] at *
  clear hy
  have b0 := (Below.refl w.heap.size w).alloc (Nat.le_refl _) (.cells #[.string s, .slice A n cap, .int .i64 k, .int .i64 a, .int .i64 sz, .int .i64 f, .int .i64 ln, .int .i64 x0, .int .i64 x1, .int .i64 x2, .int .i64 x3, .int .i64 x4, .int .i64 x5, .int .i64 x6, .int .i64 x7, .bool xb, .slice V vs.length vc, .string p, .int .i64 it] 35)
  have cN := cell_allocN w #[.string s, .slice A n cap, .int .i64 k, .int .i64 a, .int .i64 sz, .int .i64 f, .int .i64 ln, .int .i64 x0, .int .i64 x1, .int .i64 x2, .int .i64 x3, .int .i64 x4, .int .i64 x5, .int .i64 x6, .int .i64 x7, .bool xb, .slice V vs.length vc, .string p, .int .i64 it] 35
  have c3 := cN 3
  have c4 := cN 4
  have c16 := cN 16
  have c17 := cN 17
  have hsz : (w.alloc (.cells #[.string s, .slice A n cap, .int .i64 k, .int .i64 a, .int .i64 sz, .int .i64 f, .int .i64 ln, .int .i64 x0, .int .i64 x1, .int .i64 x2, .int .i64 x3, .int .i64 x4, .int .i64 x5, .int .i64 x6, .int .i64 x7, .bool xb, .slice V vs.length vc, .string p, .int .i64 it] 35)).heap.size = w.heap.size + 1 := by simp
  change _ = some (Value.int .i64 a) at c3
  change _ = some (Value.int .i64 sz) at c4
  change _ = some (Value.slice V vs.length vc) at c16
  change _ = some (Value.string p) at c17
  clear cN
  generalize hW : w.alloc (.cells #[.string s, .slice A n cap, .int .i64 k, .int .i64 a, .int .i64 sz, .int .i64 f, .int .i64 ln, .int .i64 x0, .int .i64 x1, .int .i64 x2, .int .i64 x3, .int .i64 x4, .int .i64 x5, .int .i64 x6, .int .i64 x7, .bool xb, .slice V vs.length vc, .string p, .int .i64 it] 35) = W0 at b0 c3 c4 c16 c17 hsz
  have hV0 : IAt W0 w.heap.size V vs := hV.below b0 (Nat.le_refl _)
  clear hV
  by_cases h1 : bits BinOp.and IntKind.i64 a 3 = 0
  · have e1 : (bits BinOp.and IntKind.i64 a 3 != 0) = false := by rw [h1]; rfl
    by_cases h2 : sz = 4 * (vs.length : Int)
    · rw [if_pos ⟨h1, h2⟩]
      have hm' : IntKind.i64.wrap (4 * (vs.length : Int)) = 4 * (vs.length : Int) := IntWalk.i64_in _ (by omega)
      have e2 : (sz != 4 * (vs.length : Int)) = false := by rw [h2]; simp
      have hpv : p.size = 4 * vs.length := by omega
      clear h2 hps
      go_enter Tryd.func12, Tryd.ntmps12
      go_wp2
      go_loopw [26] (fun c wr => ∃ i : Nat, i ≤ vs.length ∧ c = .int .i64 i ∧ poolG vs p.data.toList 0 vs = poolG vs p.data.toList i (vs.drop i) ∧ Below W0.heap.size W0 wr) (fun c _ => vs.length - (intOf c).toNat)
      case atStart => exact ⟨0, by omega, rfl, rfl, Below.refl _ _⟩
      case round =>
        obtain ⟨i, hi, rfl, hg, hbr⟩ := hrel
        have keep : ∀ w', Below W0.heap.size W0 w' → w'.cell? ⟨w.heap.size, 16, none⟩ = some (.slice V vs.length vc) ∧ w'.cell? ⟨w.heap.size, 17, none⟩ = some (.string p) := fun w' h => ⟨(h.cell (p := ⟨w.heap.size, 16, none⟩) (by show w.heap.size < W0.heap.size; omega)).trans c16, (h.cell (p := ⟨w.heap.size, 17, none⟩) (by show w.heap.size < W0.heap.size; omega)).trans c17⟩
        have hbw : Below w.heap.size w wr := b0.trans (hbr.mono (by omega))
        obtain ⟨d16, d17⟩ := keep wr hbr
        by_cases hlt : i < vs.length
        · obtain ⟨g, off, rfl, hgb, hc⟩ := (hV0.below hbr (by omega)).at_ hlt
          have hk0 : (0 : Int) ≤ (i : Int) := by omega
          have hkl : (i : Int) < (vs.length : Int) := by omega
          rw [List.drop_eq_getElem_cons hlt, poolG_cons] at hg
          generalize hv : vs[i] = v at hg hc
          have h4 : ((p.data.toList.drop (4 * i)).take 4).length = 4 := by
            have : p.data.toList.length = p.size := rfl
            rw [List.length_take, List.length_drop]
            omega
          obtain ⟨q0, q1, hq⟩ := unpB_four h4
          have hU := unpack_any (p.extract (4 * i) (4 * i + 4)) wr (by
            have : (p.extract (4 * i) (4 * i + 4)).data.toList.length = (p.extract (4 * i) (4 * i + 4)).size := rfl
            rw [Lib.extract_data, show 4 * i + 4 - 4 * i = 4 by omega, h4] at this
            omega)
          rw [Lib.extract_data, show 4 * i + 4 - 4 * i = 4 by omega, hq] at hU
          unfold wordB at hg
          rw [hq] at hg
          simp only [List.getD_cons_zero, List.getD_cons_succ, List.length_cons, List.length_nil] at hg hU
          have HG := Lib.hid hg
          clear hg
          have s0 : (0 : Int) ≤ 4 * (i : Int) := by omega
          have s1 : 4 * (i : Int) ≤ 4 * (i : Int) + 4 := by omega
          have s2 : 4 * (i : Int) + 4 ≤ (p.size : Int) := by omega
          have s3 : (4 * (i : Int)).toNat = 4 * i := by omega
          have s4 : (4 * (i : Int) + 4).toNat = 4 * i + 4 := by omega
          go_wp2_with fail
          ((with_reducible refine hU.mono ?_); rintro e w1 ⟨A1, cap1, rfl, hA1, hcap1, hb1⟩)
          obtain ⟨g1, o1, rfl, hg1, hc0⟩ := hA1.at_ (k := 0) (by simp)
          obtain ⟨g2, o2, hA2, hg2, hc1⟩ := hA1.at_ (k := 1) (by simp)
          simp only [Option.some.injEq, Addr.mk.injEq, and_true] at hA2
          obtain ⟨rfl, rfl⟩ := hA2
          simp only [List.getElem_cons_zero, List.getElem_cons_succ, Nat.add_zero] at hc0 hc1
          have hbr1 : Below W0.heap.size W0 w1 := hbr.trans (hb1.mono hbr.size)
          obtain ⟨f16, f17⟩ := keep w1 hbr1
          have hI := fun q => index_any vs (some ⟨g, off, none⟩) vc v (w1.drewN q) ((hV0.below hbr1 (by omega)).more (by have := hbr1.size; show w.heap.size ≤ w1.heap.size; omega)) (by unfold maxLen; omega)
          have hbw1 : Below w.heap.size w w1 := b0.trans (hbr1.mono (by omega))
          clear hU hA1 d16 d17 keep
          by_cases hv : v = bits BinOp.or IntKind.i64 q0 (IntKind.i64.wrap (q1 * 65536))
          · have e3 : (v != bits BinOp.or IntKind.i64 q0 (IntKind.i64.wrap (q1 * 65536))) = false := by rw [← hv]; simp
            by_cases hx : indexI vs v = i
            · have e4 : (indexI vs v != (i : Int)) = false := by rw [hx]; simp
              have hn := HG.out
              rw [if_pos ⟨hv, hx⟩] at hn
              have HN := Lib.hid hn
              clear hn HG hx hv
              go_wp2_with fail
              go_quiet (first | (go_at_call 19; exact Calls.quiet_of_same (hI _)))
              go_wp2_with fail
              go_roundw
              case rel => exact ⟨i + 1, by omega, by go_num, HN.out, below_drewN hbr1⟩
              case measure => simp [intOf]; omega
            · have e4 : (indexI vs v != (i : Int)) = true := by simpa using hx
              have hn := HG.out
              rw [if_neg (fun h => hx h.2)] at hn
              have HN := Lib.hid hn
              clear hn HG hx hv
              go_wp2_with fail
              go_quiet (first | (go_at_call 19; exact Calls.quiet_of_same (hI _)))
              go_wp2_with fail
              exact bodyPost_ret (results_tmp rfl _ _ _) rfl ⟨by rw [HN.out]; rfl, below_drewN hbw1⟩
          · have e3 : (v != bits BinOp.or IntKind.i64 q0 (IntKind.i64.wrap (q1 * 65536))) = true := by simpa using hv
            have hn := HG.out
            rw [if_neg (fun h => hv h.1)] at hn
            have HN := Lib.hid hn
            clear hn HG hv hI
            go_wp2_with fail
            go_quiet (fail)
            go_wp2_with fail
            exact bodyPost_ret (results_tmp rfl _ _ _) rfl ⟨by rw [HN.out]; rfl, below_drewN hbw1⟩
        · have e : i = vs.length := by omega
          subst e
          rw [List.drop_length] at hg
          go_wp2_with fail
          exact bodyPost_ret (results_tmp rfl _ _ _) rfl ⟨by rw [hg]; rfl, hbw⟩
    · rw [if_neg (fun h => h2 h.2)]
      have hm' : IntKind.i64.wrap (4 * (vs.length : Int)) = 4 * (vs.length : Int) := IntWalk.i64_in _ (by omega)
      have e2 : (sz != 4 * (vs.length : Int)) = true := by simpa using h2
      go_enter Tryd.func12, Tryd.ntmps12
      go_wp2
      exact bodyPost_ret (results_tmp rfl _ _ _) rfl ⟨rfl, b0⟩
  · rw [if_neg (fun h => h1 h.1)]
    have e1 : (bits BinOp.and IntKind.i64 a 3 != 0) = true := by simpa using h1
    go_enter Tryd.func12, Tryd.ntmps12
    go_wp2
    exact bodyPost_ret (results_tmp rfl _ _ _) rfl ⟨rfl, b0⟩
#print axioms pool_any
end Go.Proofs.YtiicniiecomhjaaDoor
