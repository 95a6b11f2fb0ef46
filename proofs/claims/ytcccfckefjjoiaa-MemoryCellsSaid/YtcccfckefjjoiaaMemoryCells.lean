/- MemoryCells: for all cells the law returns true, and the argument reads as before. No condition. -/
import Derived.Test.YtcccfckefjjoiaaMemoryNone
import Derived.Test.YtcccfckefjjoiaaMemPlain2
import Derived.Test.YtcccfckefjjoiaaMemGrow
import Derived.IntWalk
import Derived.BigQuiet
namespace Go.Proofs.Ytcccfckefjjoiaa
open Go.ChangeShapes Go.WideShapes Go.ChangeAt Go.RowKit Go.Mem Go.Sort

namespace memoryCells

/-- The memory, its cells as they were handed back, and what has been made. -/
structure Inv (w : World) (b bm : Nat) (c : Cells) (A : Option Addr) (x : World) : Prop where
  mem : MemAt x b bm c
  row : ClAt x x.heap.size A c
  size : w.heap.size ≤ x.heap.size
  low : Below w.heap.size w x
theorem Inv.st (w : World) (b bm : Nat) (c : Cells) (A : Option Addr) : Stable (Inv w b bm c A) := fun x y h hb =>
  ⟨Stable.mem b bm c x y h.mem hb, Stable.cl A c x y h.row hb, Nat.le_trans h.size hb.size, h.low.trans (hb.mono h.size)⟩
theorem Inv.drew {w : World} {b bm : Nat} {c : Cells} {A : Option Addr} {x : World} (h : Inv w b bm c A x) : Inv w b bm c A x.drew := ⟨h.mem, h.row, h.size, h.low.drew⟩

set_option maxHeartbeats 4000000 in
theorem walk (l : Cells) (A : Option Addr) (cap : Nat) (w : World) (h : ClAt w w.heap.size A l) (hr : InR l) :
    Calls Try.prog 5 #[.slice A l.length cap] w fun e w' => e = .returned (.bool true) ∧ Below w.heap.size w w' := by
  by_cases hl : 1000 < l.length
  · go_enter Try.func5, Try.ntmps5
    go_wp2_with fail
    ((with_reducible refine (awake_any _).mono ?_); rintro e w1 ⟨rfl, hb⟩)
    go_wp2
    go_ret
    exact ⟨rfl, hb⟩
  · have hl2 : l.length ≤ 4294967296 := by omega
    have hnl : ¬ (1000 : Int) < (l.length : Int) := by omega
    go_enter Try.func5, Try.ntmps5
    go_wp2_with fail
    ((with_reducible refine (new_ex l A cap w h hl2 hr).mono ?_); rintro e w1 ⟨b, bm, rfl, hm1, _, _, hb1⟩)
    have hcn := canon_new l
    have hrn := inR_new l hr
    have hlen := length_new_le l
    clear h
    generalize newL l = c at *
    go_wp2_with fail
    ((with_reducible refine (cells_any w1 b bm c hm1).mono ?_); rintro e w2 ⟨A2, cap2, rfl, hA2, hb2⟩)
    have hI2 : Inv w b bm c A2 w2 := ⟨hm1.below hb2 hm1.lt.1 hm1.lt.2, hA2, Nat.le_trans hb1.size hb2.size, hb1.trans (hb2.mono hb1.size)⟩
    clear hm1 hb1 hA2 hb2
    have st := Inv.st w b bm c A2
    go_wp2_with fail
    go_loopw [5] (fun k wr => ∃ i : Nat, i ≤ c.length ∧ k = .int .i64 i ∧ Inv w b bm c A2 wr) (fun k _ => c.length - (intOf k).toNat)
    case atStart => exact ⟨0, by omega, rfl, hI2⟩
    case round =>
      clear hI2
      obtain ⟨i, hi, rfl, hI⟩ := hrel
      by_cases hlt : i < c.length
      · obtain ⟨g, off, rfl, hg, h1, h2⟩ := hI.row.at_ hlt
        have hnz := hcn.nz _ (List.getElem_mem hlt)
        have hrp := hrn _ (List.getElem_mem hlt)
        have hget := getL_ne hcn (List.getElem_mem hlt)
        have hone := load_one c (c[i]).1 hrp.1 hrp.2.1
        rw [hget] at hone
        have hi0 : (0 : Int) ≤ (i : Int) := by omega
        have hi1 : (i : Int) < (c.length : Int) := by omega
        have HO := Lib.hid hone
        clear hget hone
        have hld := fun k os => load_at wr b bm c (c[i]).1 1 hI.mem k os
        have hmx := mixed
        have F1 := cell_grown (w := wr) (a := ⟨g, off + i * 2, none⟩) hg h1
        have F2 := cell_grown (w := wr) (a := ⟨g, off + i * 2 + 1, none⟩) hg h2
        by_cases hz : i = 0
        · subst hz
          generalize hp : c[0] = p at *
          obtain ⟨pa, pb⟩ := p
          simp only at h1 h2 hnz hrp HO hld F1 F2
          clear hp
          simp at h1 h2 F1 F2
          have hb0 : (pb == 0) = false := by simpa using hnz
          have hw : pb % 4294967296 = pb := by omega
          have ho := HO.out
          have z0 : ((0 : Nat) : Int) = 0 := rfl
          simp only [z0] at hi0 hi1
          rw [z0]
          go_wp2_with fail
          refine wp_region_quiet_grown (by assumption) (by kernel_rfl) ?_
          repeat (go_big_quiet_step ((go_at_call 11; refine Calls.grown_of (hld _ _))))
          refine wpQuiet_nil ?_
          intro _ hw'
          obtain ⟨⟨nq, osq⟩, hw''⟩ := hw'
          subst hw''
          have hI2 := st _ _ hI (Gr.below ⟨nq, osq, rfl⟩)
          clear hld F1 F2 h1 h2 hb0 hw ho hI
          go_wp2
          go_roundw
          case rel => exact ⟨1, by omega, by go_num, hI2⟩
          case measure => simp [intOf]; omega
        · obtain ⟨j, rfl⟩ : ∃ j, i = j + 1 := ⟨i - 1, by omega⟩
          have hj : j < c.length := by omega
          obtain ⟨g', off', e', _, h3, _⟩ := hI.row.at_ hj
          obtain ⟨rfl, rfl⟩ : g = g' ∧ off = off' := by simpa using e'
          have F3 := cell_grown (w := wr) (a := ⟨g, off + j * 2, none⟩) hg h3
          have hup := (List.pairwise_iff_getElem.1 hcn.up) j (j + 1) hj hlt (by omega)
          generalize hp : c[j + 1] = p at *
          generalize hq : c[j] = q at *
          obtain ⟨pa, pb⟩ := p
          obtain ⟨qa, qb⟩ := q
          simp only at h1 h2 h3 hnz hrp HO hld hup F1 F2 F3
          clear hp hq e'
          have hb0 : (pb == 0) = false := by simpa using hnz
          have hle : decide (pa ≤ qa) = false := by simpa using hup
          have ho := HO.out
          have hw : pb % 4294967296 = pb := by omega
          have hj0 : (0 : Int) ≤ (j : Int) := by omega
          have hj1 : (j : Int) < (c.length : Int) := by omega
          have hwj : IntKind.i64.wrap (((j + 1 : Nat) : Int) - 1) = (j : Int) := by rw [IntWalk.i64_in _ (by omega)]; omega
          have z1 : decide ((0 : Int) < ((j + 1 : Nat) : Int)) = true := by simp
          go_wp2_with fail
          refine wp_region_quiet_grown (by assumption) (by kernel_rfl) ?_
          repeat (go_big_quiet_step ((go_at_call 11; refine Calls.grown_of (hld _ _))))
          refine wpQuiet_nil ?_
          intro _ hw'
          obtain ⟨⟨nq, osq⟩, hw''⟩ := hw'
          subst hw''
          have hI2 := st _ _ hI (Gr.below ⟨nq, osq, rfl⟩)
          clear hld F1 F2 F3 h1 h2 h3 hb0 hw ho hI hle hwj z1
          go_wp2
          go_roundw
          case rel => exact ⟨j + 1 + 1, by omega, by go_num, hI2⟩
          case measure => simp [intOf]; omega
      · have e : i = c.length := by omega
        subst e
        have hself : newL c = c := new_self hcn
        have hn := new_ex c A2 cap2 wr hI.row (by omega) hrn
        rw [hself] at hn
        go_wp2_with fail
        ((with_reducible refine hn.mono ?_); rintro e w3 ⟨b3, bm3, rfl, hm3, _, _, hb3⟩)
        have hI3 := st _ _ hI hb3
        have st3 : Stable fun x => Inv w b bm c A2 x ∧ MemAt x b3 bm3 c := st.and (Stable.mem b3 bm3 c)
        clear hn hI hb3
        go_wp2_with fail
        ((with_reducible refine (cells_st st3 (fun _ h => h.2) ⟨hI3, hm3⟩).mono ?_); rintro e w4 ⟨A4, cap4, rfl, hI4, hA4⟩)
        go_wp2_with fail
        ((with_reducible refine (rSame_any c A4 A2 cap4 cap2 w4 hA4 hI4.1.row (by omega)).mono ?_); rintro e w5 ⟨rfl, hb5⟩)
        have hI5 := st _ _ hI4.1 hb5
        clear hI3 hm3 hI4 hA4 hb5 st3
        go_wp2_with fail
        ((with_reducible refine (len_any w5 b bm c hI5.mem).mono ?_); rintro e w6 ⟨rfl, rfl⟩)
        go_wp2_with fail
        ((with_reducible refine (awake_any w5).mono ?_); rintro e w7 ⟨rfl, hb7⟩)
        have hbe := hI5.low.trans (hb7.mono hI5.size)
        clear hI5 hb7 st
        go_wp2
        go_ret
        exact ⟨rfl, hbe⟩

theorem contract (H : Type) (enc : TypeId × Value → H) (W : World) (base : Nat) (args : Array Value) (ds gs : List (DataW H)) (before : List MemPlace)
    (hval : ∀ (j : Nat) t v, Try.f5.params[j]? = some t → args[j]? = some v → Value.okWide Try.prog W .any base t v)
    (hW : DataW.Whole enc Try.prog Try.f5.params.toList Rows.memoryCellsSpec.vars false W args.toList ds gs before) :
    Calls Try.prog 5 args W fun e W' => ∃ v, e = .returned v ∧ Rows.memoryCellsSpec.post enc Try.prog Try.f5 false true false false W args v W' := by
  have hW' := hW
  obtain ⟨p, q, hA, _, rfl, _, _⟩ := hW
  rw [Try.params5] at hA hval
  obtain ⟨v0, vs0, d0, ds0, p0, q0, hargs, rfl, rfl, h0, r0⟩ := trodAll_cons hA
  obtain ⟨rfl, rfl, rfl⟩ := trodAll_nil r0
  obtain rfl : args = #[v0] := by cases args; simp_all
  obtain ⟨A, cap, l, rfl, hcl, hin, hlen⟩ := open_cells (hval 0 22 v0 rfl rfl) h0
  refine (walk l A cap W hcl hin).mono fun e W' ⟨he, hb⟩ => ⟨_, he, ?_⟩
  exact law_post laidOut rfl (by rw [Try.params5]; intro t ht; simp at ht; subst ht; exact ⟨by kernel_rfl, of_decide_eq_true (by kernel_rfl)⟩) hW' hb (by kernel_rfl) Try.underlying4 rfl

set_option maxRecDepth 100000 in
theorem lifted (os : Os) (started : os.Started) (H : Type) (enc : TypeId × Value → H) :
    ReturnsInHanded {} Try.checked os 5 .any (Rows.memoryCellsSpec.pre6 enc Try.prog Try.f5 Rows.memoryCellsRow.domain false) (Rows.memoryCellsSpec.post enc Try.prog Try.f5 false true false false) := by
  refine returnsInHanded_of_change (C := Try.checked) own started (by kernel_rfl) Try.func5
    (ChangeSpec.witness6 (enc := enc) (C := Try.checked) false ⟨#[], #[.slice none 0 0], []⟩ 8 (by kernel_rfl) (by kernel_rfl) (by kernel_rfl) (by kernel_rfl)) ?_
  intro W base args ds gs before hval hW _ _
  exact contract H enc W base args ds gs before hval hW

theorem proved : Rows.MemoryCellsSaid :=
  OpenClaim.holds_of_wide 5 Try.f5 rfl rfl rfl rfl rfl rfl rfl ⟨rfl, rfl, rfl, rfl, rfl⟩ rfl rfl rfl rfl rfl (by kernel_rfl) Try.func5 (by kernel_rfl)
    (of_decide_eq_true (by kernel_rfl)) (by unfold Func.isWrapper; first | (rw [if_pos (by decide +kernel)]; kernel_rfl) | (rw [if_neg (by decide +kernel)]; exact ⟨rfl, rfl⟩))
    (fun os started H enc _ => lifted os started H enc)

end memoryCells
end Go.Proofs.Ytcccfckefjjoiaa
