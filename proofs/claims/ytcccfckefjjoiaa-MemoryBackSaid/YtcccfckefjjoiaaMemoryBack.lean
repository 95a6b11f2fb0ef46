/- MemoryBack: for all cells, every deed and every address the law returns true, and the arguments read as before. No condition. -/
import Derived.Test.YtcccfckefjjoiaaMemoryNone
import Derived.Test.YtcccfckefjjoiaaMemPlain2
import Derived.Lib.SmallJoins
namespace Go.Proofs.Ytcccfckefjjoiaa
open Go.ChangeShapes Go.WideShapes Go.ChangeAt Go.RowKit Go.Mem Go.Joins

namespace memoryBack

theorem and8 (v : Int) (h0 : 0 ≤ v) (h1 : v < 4294967296) : bits .and .u32 v 255 = v % 256 := by
  rw [u32_and v 255 h0 h1 (by omega) (by omega)]
  have : v.toNat &&& (255 : Int).toNat = v.toNat % 256 := Nat.and_two_pow_sub_one_eq_mod v.toNat 8
  rw [this]
  omega
theorem and16 (v : Int) (h0 : 0 ≤ v) (h1 : v < 4294967296) : bits .and .u32 v 65535 = v % 65536 := by
  rw [u32_and v 65535 h0 h1 (by omega) (by omega)]
  have : v.toNat &&& (65535 : Int).toNat = v.toNat % 65536 := Nat.and_two_pow_sub_one_eq_mod v.toNat 16
  rw [this]
  omega

/-- The deed's box. -/
def Box (B : Nat) (a n v : Int) (x : World) : Prop := x.cell? ⟨B, 0, none⟩ = some (.int .u32 a) ∧ x.cell? ⟨B, 1, none⟩ = some (.int .i64 n) ∧ x.cell? ⟨B, 2, none⟩ = some (.int .u32 v)

theorem Box.new (w : World) (a n v : Int) (t : TypeId) : Box w.heap.size a n v (w.alloc (.cells #[.int .u32 a, .int .i64 n, .int .u32 v] t)) :=
  ⟨cell_of_row _ _ _ _ t (0, 0) (heap_alloc_new w _), cell_of_row _ _ _ _ t (0, 0) (heap_alloc_new w _), cell_of_row _ _ _ _ t (0, 0) (heap_alloc_new w _)⟩
theorem Box.below {B : Nat} {a n v : Int} {x y : World} (h : Box B a n v x) {C : Nat} (hb : Below C x y) (hB : B < C) : Box B a n v y :=
  ⟨(hb.cell (p := ⟨B, 0, none⟩) hB).trans h.1, (hb.cell (p := ⟨B, 1, none⟩) hB).trans h.2.1, (hb.cell (p := ⟨B, 2, none⟩) hB).trans h.2.2⟩

/-- The memory, the box, and what has been made. -/
structure Inv (w : World) (a n v : Int) (b bm : Nat) (c : Cells) (x : World) : Prop where
  mem : MemAt x b bm c
  box : Box w.heap.size a n v x
  size : w.heap.size + 1 ≤ x.heap.size
  low : Below w.heap.size w x
theorem Inv.st (w : World) (a n v : Int) (b bm : Nat) (c : Cells) : Stable (Inv w a n v b bm c) := fun x y h hb =>
  ⟨Stable.mem b bm c x y h.mem hb, h.box.below hb (by have := h.size; omega), Nat.le_trans h.size hb.size, h.low.trans (hb.mono (by have := h.size; omega))⟩

set_option maxHeartbeats 4000000 in
theorem walk (l : Cells) (A : Option Addr) (cap : Nat) (a n v o : Int) (w : World) (h : ClAt w w.heap.size A l) (hr : InR l) (v0 : 0 ≤ v) (v1 : v < 4294967296) (o0 : 0 ≤ o) (o1 : o < 4294967296) :
    Calls Try.prog 4 #[.slice A l.length cap, .agg #[.int .u32 a, .int .i64 n, .int .u32 v], .int .u32 o] w fun e w' => e = .returned (.bool true) ∧ Below w.heap.size w w' := by
  by_cases hl : 1000 < l.length
  · go_enter Try.func4, Try.ntmps4
    go_wp2_with fail
    ((with_reducible refine (awake_any _).mono ?_); rintro e w1 ⟨rfl, hb⟩)
    go_wp2
    go_ret
    exact ⟨rfl, ((Below.refl _ _).alloc (Nat.le_refl _) _).trans (hb.mono (by simp))⟩
  · have hl2 : l.length ≤ 4294967296 := by omega
    have hnl : ¬ (1000 : Int) < (l.length : Int) := by omega
    have hbox := Box.new w a n v 30
    have hbel : Below w.heap.size w (w.alloc (.cells #[.int .u32 a, .int .i64 n, .int .u32 v] 30)) := (Below.refl _ _).alloc (Nat.le_refl _) _
    have hnew := new_ex l A cap (w.alloc (.cells #[.int .u32 a, .int .i64 n, .int .u32 v] 30)) ((h.below hbel (Nat.le_refl _)).more (by simp)) hl2 hr
    go_enter Try.func4, Try.ntmps4
    go_wp2_with fail
    ((with_reducible refine hnew.mono ?_); rintro e w1 ⟨b, bm, rfl, hm1, h1, h2, hb1⟩)
    have hbm : w.heap.size + 1 ≤ bm := by simpa using h2
    have hI1 : Inv w a n v b bm (newL l) w1 := ⟨hm1, hbox.below hb1 (by simp), by have := hb1.size; simpa using this, hbel.trans (hb1.mono (by simp))⟩
    clear hnew hb1 hm1 h1 h2 hbox hbel h
    generalize newL l = c at *
    have st := Inv.st w a n v b bm c
    go_wp2_with fail
    ((with_reducible refine (load_st st o 1 (fun _ h => h.mem) hI1).mono ?_); rintro e w2 ⟨rfl, hI2⟩)
    have hs := store_full w2 b bm c a n v v0 v1 hI2.mem
    obtain ⟨f0, f1, f2⟩ := hI2.box
    go_wp2_with fail
    ((with_reducible refine hs.mono ?_); rintro e w3 ⟨rfl, hm3, hg3⟩)
    have hB3 : Box w.heap.size a n v w3 := ⟨grownBy_far f0 hg3 (by intro e; have := Option.some.inj e; simp at this; omega), grownBy_far f1 hg3 (by intro e; have := Option.some.inj e; simp at this; omega), grownBy_far f2 hg3 (by intro e; have := Option.some.inj e; simp at this; omega)⟩
    have hI3 : Inv w a n v b bm (storeL c a n v) w3 := ⟨hm3, hB3, Nat.le_trans hI2.size hg3.size, hI2.low.grown hg3 (by have := hI2.size; omega) (fun j hj => by cases hj; omega)⟩
    clear hs hm3 hg3 hB3 f0 f1 f2 hI1 hI2 st
    have st := Inv.st w a n v b bm (storeL c a n v)
    obtain ⟨f0, f1, f2⟩ := hI3.box
    cases hsz : sizeB n
    · have hn : n ≠ 1 ∧ n ≠ 2 ∧ n ≠ 4 := by unfold sizeB at hsz; simp at hsz; omega
      have e1 : storeL c a n v = c := by unfold storeL; rw [hsz]; rfl
      have e2 : loadL c a n = 0 := by unfold loadL; rw [hsz]; rfl
      rw [e1] at hI3 st
      obtain ⟨n1, n2, n4⟩ := hn
      have q1 : (n != 1) = true := by simpa using n1
      have q2 : (n != 2) = true := by simpa using n2
      have q4 : (n != 4) = true := by simpa using n4
      go_wp2_with fail
      ((with_reducible refine (load_st st o 1 (fun _ h => h.mem) hI3).mono ?_); rintro e w4 ⟨rfl, hI4⟩)
      clear f0 f1 f2
      obtain ⟨f0, f1, f2⟩ := hI4.box
      go_wp2_with fail
      ((with_reducible refine (load_st st a n (fun _ h => h.mem) hI4).mono ?_); rintro e w5 ⟨rfl, hI5⟩)
      go_wp2_with fail
      ((with_reducible refine (awake_any w5).mono ?_); rintro e w6 ⟨rfl, hb6⟩)
      have hbe := hI5.low.trans (hb6.mono (by have := hI5.size; omega))
      clear hI3 hI4 hI5 hb6 st f0 f1 f2
      go_wp2
      go_ret
      exact ⟨rfl, hbe⟩
    · have hld := back_load c a n v hsz
      have hot := back_other c a n v o hsz o0 o1
      have a8 := and8 v v0 v1
      have a16 := and16 v v0 v1
      have hn : n = 1 ∨ n = 2 ∨ n = 4 := by unfold sizeB at hsz; simp at hsz; omega
      generalize hc2 : storeL c a n v = c2 at *
      clear hc2
      rcases hn with rfl | rfl | rfl
      · have hld : loadL c2 a 1 = v % 256 := by have := hld; simp at this; omega
        have hot : ¬ (o - a) % 4294967296 < 1 → loadL c2 o 1 = loadL c o 1 := hot
        by_cases hin : (o - a) % 4294967296 < 1
        · clear hot
          go_wp2_with fail
          ((with_reducible refine (load_st st a _ (fun _ h => h.mem) hI3).mono ?_); rintro e w4 ⟨rfl, hI4⟩)
          clear f0 f1 f2
          obtain ⟨f0, f1, f2⟩ := hI4.box
          go_wp2_with fail
          ((with_reducible refine (awake_any w4).mono ?_); rintro e w6 ⟨rfl, hb6⟩)
          have hbe := hI4.low.trans (hb6.mono (by have := hI4.size; omega))
          clear hI3 hI4 hb6 st f0 f1 f2 hld hin
          go_wp2
          go_ret
          exact ⟨rfl, hbe⟩
        · have hot2 := hot hin
          clear hot
          go_wp2_with fail
          ((with_reducible refine (load_st st a _ (fun _ h => h.mem) hI3).mono ?_); rintro e w4 ⟨rfl, hI4⟩)
          clear f0 f1 f2
          obtain ⟨f0, f1, f2⟩ := hI4.box
          go_wp2_with fail
          ((with_reducible refine (load_st st o 1 (fun _ h => h.mem) hI4).mono ?_); rintro e w5 ⟨rfl, hI5⟩)
          go_wp2_with fail
          ((with_reducible refine (awake_any w5).mono ?_); rintro e w6 ⟨rfl, hb6⟩)
          have hbe := hI5.low.trans (hb6.mono (by have := hI5.size; omega))
          clear hI3 hI4 hI5 hb6 st f0 f1 f2 hld hin hot2
          go_wp2
          go_ret
          exact ⟨rfl, hbe⟩
      · have hld : loadL c2 a 2 = v % 65536 := by have := hld; simp at this; omega
        have hot : ¬ (o - a) % 4294967296 < 2 → loadL c2 o 1 = loadL c o 1 := hot
        by_cases hin : (o - a) % 4294967296 < 2
        · clear hot
          go_wp2_with fail
          ((with_reducible refine (load_st st a _ (fun _ h => h.mem) hI3).mono ?_); rintro e w4 ⟨rfl, hI4⟩)
          clear f0 f1 f2
          obtain ⟨f0, f1, f2⟩ := hI4.box
          go_wp2_with fail
          ((with_reducible refine (awake_any w4).mono ?_); rintro e w6 ⟨rfl, hb6⟩)
          have hbe := hI4.low.trans (hb6.mono (by have := hI4.size; omega))
          clear hI3 hI4 hb6 st f0 f1 f2 hld hin
          go_wp2
          go_ret
          exact ⟨rfl, hbe⟩
        · have hot2 := hot hin
          clear hot
          go_wp2_with fail
          ((with_reducible refine (load_st st a _ (fun _ h => h.mem) hI3).mono ?_); rintro e w4 ⟨rfl, hI4⟩)
          clear f0 f1 f2
          obtain ⟨f0, f1, f2⟩ := hI4.box
          go_wp2_with fail
          ((with_reducible refine (load_st st o 1 (fun _ h => h.mem) hI4).mono ?_); rintro e w5 ⟨rfl, hI5⟩)
          go_wp2_with fail
          ((with_reducible refine (awake_any w5).mono ?_); rintro e w6 ⟨rfl, hb6⟩)
          have hbe := hI5.low.trans (hb6.mono (by have := hI5.size; omega))
          clear hI3 hI4 hI5 hb6 st f0 f1 f2 hld hin hot2
          go_wp2
          go_ret
          exact ⟨rfl, hbe⟩
      · have hld : loadL c2 a 4 = v := by have := hld; simp at this; omega
        have hot : ¬ (o - a) % 4294967296 < 4 → loadL c2 o 1 = loadL c o 1 := hot
        by_cases hin : (o - a) % 4294967296 < 4
        · clear hot
          go_wp2_with fail
          ((with_reducible refine (load_st st a _ (fun _ h => h.mem) hI3).mono ?_); rintro e w4 ⟨rfl, hI4⟩)
          clear f0 f1 f2
          obtain ⟨f0, f1, f2⟩ := hI4.box
          go_wp2_with fail
          ((with_reducible refine (awake_any w4).mono ?_); rintro e w6 ⟨rfl, hb6⟩)
          have hbe := hI4.low.trans (hb6.mono (by have := hI4.size; omega))
          clear hI3 hI4 hb6 st f0 f1 f2 hld hin
          go_wp2
          go_ret
          exact ⟨rfl, hbe⟩
        · have hot2 := hot hin
          clear hot
          go_wp2_with fail
          ((with_reducible refine (load_st st a _ (fun _ h => h.mem) hI3).mono ?_); rintro e w4 ⟨rfl, hI4⟩)
          clear f0 f1 f2
          obtain ⟨f0, f1, f2⟩ := hI4.box
          go_wp2_with fail
          ((with_reducible refine (load_st st o 1 (fun _ h => h.mem) hI4).mono ?_); rintro e w5 ⟨rfl, hI5⟩)
          go_wp2_with fail
          ((with_reducible refine (awake_any w5).mono ?_); rintro e w6 ⟨rfl, hb6⟩)
          have hbe := hI5.low.trans (hb6.mono (by have := hI5.size; omega))
          clear hI3 hI4 hI5 hb6 st f0 f1 f2 hld hin hot2
          go_wp2
          go_ret
          exact ⟨rfl, hbe⟩

theorem contract (H : Type) (enc : TypeId × Value → H) (W : World) (base : Nat) (args : Array Value) (ds gs : List (DataW H)) (before : List MemPlace)
    (hval : ∀ (j : Nat) t v, Try.f4.params[j]? = some t → args[j]? = some v → Value.okWide Try.prog W .any base t v)
    (hW : DataW.Whole enc Try.prog Try.f4.params.toList Rows.memoryBackSpec.vars false W args.toList ds gs before) :
    Calls Try.prog 4 args W fun e W' => ∃ v, e = .returned v ∧ Rows.memoryBackSpec.post enc Try.prog Try.f4 false true false false W args v W' := by
  have hW' := hW
  obtain ⟨p, q, hA, _, rfl, _, _⟩ := hW
  rw [Try.params4] at hA hval
  obtain ⟨v0, v1, v2, d0, d1, d2, p0, p1, p2, rfl, rfl, rfl, h0, h1, h2⟩ := trodAll_three hA
  obtain ⟨A, cap, l, rfl, hcl, hin, hlen⟩ := open_cells (hval 0 22 v0 rfl rfl) h0
  obtain ⟨x0, x1, x2, y0, y1, y2, n, rfl, _, _, t0, t1, t2⟩ := open_agg3 Try.underlying30 (by kernel_rfl) (by kernel_rfl) (hval 1 30 v1 rfl rfl) h1
  obtain ⟨a, e0, _, _⟩ := DataW.trod_int Try.underlying28 t0
  obtain ⟨s, e1, _, _⟩ := DataW.trod_int Try.underlying3 t1
  obtain ⟨v, e2, _, wv⟩ := DataW.trod_int Try.underlying28 t2
  simp at e0 e1 e2
  subst e0
  subst e1
  subst e2
  obtain ⟨o, rfl, rfl, _, wo⟩ := open_int Try.underlying28 (hval 2 28 v2 rfl rfl) h2
  have hv : 0 ≤ v ∧ v ≤ 4294967295 := by simpa [Lit.wf, IntKind.min, IntKind.max, IntKind.bits, IntKind.signed] using wv
  have ho : 0 ≤ o ∧ o ≤ 4294967295 := by simpa [Lit.wf, IntKind.min, IntKind.max, IntKind.bits, IntKind.signed] using wo
  refine (walk l A cap a s v o W hcl hin hv.1 (by omega) ho.1 (by omega)).mono fun e W' ⟨he, hb⟩ => ⟨_, he, ?_⟩
  exact law_post laidOut rfl (by rw [Try.params4]; intro t ht; simp at ht; rcases ht with rfl | rfl | rfl <;> exact ⟨by kernel_rfl, of_decide_eq_true (by kernel_rfl)⟩) hW' hb (by kernel_rfl) Try.underlying4 rfl

set_option maxRecDepth 100000 in
theorem lifted (os : Os) (started : os.Started) (H : Type) (enc : TypeId × Value → H) :
    ReturnsInHanded {} Try.checked os 4 .any (Rows.memoryBackSpec.pre6 enc Try.prog Try.f4 Rows.memoryBackRow.domain false) (Rows.memoryBackSpec.post enc Try.prog Try.f4 false true false false) := by
  refine returnsInHanded_of_change (C := Try.checked) own started (by kernel_rfl) Try.func4
    (ChangeSpec.witness6 (enc := enc) (C := Try.checked) false ⟨#[], #[.slice none 0 0, .agg #[.int .u32 0, .int .i64 0, .int .u32 0], .int .u32 0], []⟩ 8 (by kernel_rfl) (by kernel_rfl) (by kernel_rfl) (by kernel_rfl)) ?_
  intro W base args ds gs before hval hW _ _
  exact contract H enc W base args ds gs before hval hW

theorem proved : Rows.MemoryBackSaid :=
  OpenClaim.holds_of_wide 4 Try.f4 rfl rfl rfl rfl rfl rfl rfl ⟨rfl, rfl, rfl, rfl, rfl⟩ rfl rfl rfl rfl rfl (by kernel_rfl) Try.func4 (by kernel_rfl)
    (of_decide_eq_true (by kernel_rfl)) (by unfold Func.isWrapper; first | (rw [if_pos (by decide +kernel)]; kernel_rfl) | (rw [if_neg (by decide +kernel)]; exact ⟨rfl, rfl⟩))
    (fun os started H enc _ => lifted os started H enc)

end memoryBack
end Go.Proofs.Ytcccfckefjjoiaa
