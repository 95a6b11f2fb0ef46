/- The chapter's example: it answers true. -/
import Derived.Test.YtcccfckefjjoiaaMemCells
namespace Go.Proofs.Ytcccfckefjjoiaa
open Go.RowKit Go.Mem

/-- What stays while new memory is made. -/
def Stable (I : World → Prop) : Prop := ∀ w w', I w → Below w.heap.size w w' → I w'

theorem Stable.mem (b bm : Nat) (c : Cells) : Stable fun w => MemAt w b bm c := fun _ _ h hb => h.below hb h.lt.1 h.lt.2
theorem Stable.cl (A : Option Addr) (c : Cells) : Stable fun w => ClAt w w.heap.size A c := fun _ _ h hb => (h.below hb (Nat.le_refl _)).more hb.size
theorem Stable.base (B : Nat) (W : World) : Stable fun w => B ≤ w.heap.size ∧ Below B W w := fun _ _ h hb => ⟨Nat.le_trans h.1 hb.size, h.2.trans (hb.mono h.1)⟩
theorem Stable.and {I J : World → Prop} (h : Stable I) (k : Stable J) : Stable fun w => I w ∧ J w := fun w w' hw hb => ⟨h w w' hw.1 hb, k w w' hw.2 hb⟩

theorem load_st {I : World → Prop} (st : Stable I) {b bm : Nat} {c : Cells} (a n : Int) {w : World} (hm : ∀ w, I w → MemAt w b bm c) (h : I w) :
    Calls Try.prog 11 #[.pointer (some ⟨b, 0, none⟩), .int .u32 a, .int .i64 n] w fun e w' => e = .returned (.int .u32 (loadL c a n)) ∧ I w' :=
  (load_full w b bm c a n (hm w h)).mono fun _ _ ⟨he, hb⟩ => ⟨he, st _ _ h hb⟩
theorem cells_st {I : World → Prop} (st : Stable I) {b bm : Nat} {c : Cells} {w : World} (hm : ∀ w, I w → MemAt w b bm c) (h : I w) :
    Calls Try.prog 17 #[.pointer (some ⟨b, 0, none⟩)] w fun e w' => ∃ A cap, e = .returned (.slice A c.length cap) ∧ I w' ∧ ClAt w' w'.heap.size A c :=
  (cells_any w b bm c (hm w h)).mono fun _ _ ⟨A, cap, he, hc, hb⟩ => ⟨A, cap, he, st _ _ h hb, hc⟩

theorem new_ex (l : Cells) (A : Option Addr) (cap : Nat) (w : World) (h : ClAt w w.heap.size A l) (hl : l.length ≤ 4294967296) (hr : InR l) :
    Calls Try.prog 9 #[.slice A l.length cap] w fun e w' => ∃ b bm, e = .returned (.pointer (some ⟨b, 0, none⟩)) ∧ MemAt w' b bm (newL l) ∧ w.heap.size ≤ b ∧ w.heap.size ≤ bm ∧ Below w.heap.size w w' :=
  (new_any l A cap w h hl hr).mono fun _ _ ⟨he, hm, hb⟩ => ⟨_, _, he, hm, Nat.le_succ _, Nat.le_refl _, hb⟩

/-- Where a row's cells stand that has just been laid. -/
theorem cl_two (w : World) (a b c d : Int) (ty : TypeId) : ClAt (w.alloc (.cells #[.int .u32 a, .int .u8 b, .int .u32 c, .int .u8 d] ty)) (w.heap.size + 1) (some ⟨w.heap.size, 0, none⟩) [(a, b), (c, d)] := by
  intro _
  have hc : ∀ i, (w.alloc (.cells #[.int .u32 a, .int .u8 b, .int .u32 c, .int .u8 d] ty)).cell? ⟨w.heap.size, i, none⟩ = #[Value.int .u32 a, .int .u8 b, .int .u32 c, .int .u8 d][i]? := fun i => cell_of_row _ _ _ _ ty (0, 0) (heap_alloc_new w _)
  refine ⟨w.heap.size, 0, rfl, by omega, fun i p hp => ?_⟩
  match i, hp with
  | 0, hp => simp at hp; subst hp; exact ⟨hc 0, hc 1⟩
  | 1, hp => simp at hp; subst hp; exact ⟨hc 2, hc 3⟩

set_option maxHeartbeats 4000000 in
theorem awake_any (w : World) : Calls Try.prog 8 #[] w fun e w' => e = .returned (.bool true) ∧ Below w.heap.size w w' := by
  have e0 : newL [(5, 1), (5, 7)] = [(5, 7)] := by decide
  have e1 : storeL [(5, 7)] 4294967295 2 258 = [(0, 1), (5, 7), (4294967295, 2)] := by decide
  have l1 : loadL [(0, 1), (5, 7), (4294967295, 2)] 0 1 = 1 := by decide
  have l2 : loadL [(0, 1), (5, 7), (4294967295, 2)] 4294967295 1 = 2 := by decide
  have l3 : loadL [(0, 1), (5, 7), (4294967295, 2)] 5 4 = 7 := by decide
  have hn := new_ex [(5, 1), (5, 7)] (some ⟨w.heap.size, 0, none⟩) 2 (w.alloc (.cells #[.int .u32 5, .int .u8 1, .int .u32 5, .int .u8 7] 42)) (by simpa using cl_two w 5 1 5 7 42) (by decide) (by intro p hp; simp at hp; rcases hp with rfl | rfl <;> simp)
  rw [e0] at hn
  have hb0 : Below w.heap.size w (w.alloc (.cells #[.int .u32 5, .int .u8 1, .int .u32 5, .int .u8 7] 42)) := (Below.refl _ _).alloc (Nat.le_refl _) _
  clear e0
  go_enter Try.func8, Try.ntmps8
  go_wp2_with (go_at_call 9; refine hn.mono ?_; rintro e w1 ⟨b, bm, rfl, hm, h1, h2, hb1⟩)
  have hbb : Below w.heap.size w w1 := hb0.trans (hb1.mono (by simp))
  have hbm : w.heap.size ≤ bm := by simp at h2; omega
  clear hn hb0 hb1 h1 h2
  have hst := store_full w1 b bm _ 4294967295 2 258 (by omega) (by omega) hm
  rw [e1] at hst
  clear e1 hm
  generalize hc : [((0 : Int), (1 : Int)), (5, 7), (4294967295, 2)] = c at *
  have c0 : c[0]? = some (0, 1) := by rw [← hc]; rfl
  have c3 : c.length = 3 := by rw [← hc]; rfl
  clear hc
  have C0 := Lib.hid c0
  have C3 := Lib.hid c3
  clear c0 c3
  go_wp2_with (go_at_call 13; refine hst.mono ?_; rintro e w2 ⟨rfl, hm2, hg2⟩; clear hst)
  have hb2 : Below w.heap.size w w2 := hbb.grown hg2 hbb.size (fun j hj => by cases hj; exact hbm)
  have st : Stable fun v => MemAt v b bm c ∧ (w.heap.size ≤ v.heap.size ∧ Below w.heap.size w v) := (Stable.mem b bm c).and (Stable.base _ _)
  have hI2 : MemAt w2 b bm c ∧ (w.heap.size ≤ w2.heap.size ∧ Below w.heap.size w w2) := ⟨hm2, hb2.size, hb2⟩
  clear hg2 hm2 hb2 hbb
  go_wp2_with (go_at_call 17; refine (cells_st st (fun _ h => h.1) hI2).mono ?_; rintro e w3 ⟨A, cap, rfl, hI3, hA⟩)
  obtain ⟨g, off, rfl, hg, hcc⟩ := hA (by intro e; have := C3.out; rw [e] at this; cases this)
  obtain ⟨f1, _⟩ := hcc 0 _ C0.out
  clear hcc
  have st2 : Stable fun v => (MemAt v b bm c ∧ (w.heap.size ≤ v.heap.size ∧ Below w.heap.size w v)) ∧ (w3.heap.size ≤ v.heap.size ∧ Below w3.heap.size w3 v) := st.and (Stable.base _ _)
  have hI4 : (MemAt w3 b bm c ∧ (w.heap.size ≤ w3.heap.size ∧ Below w.heap.size w w3)) ∧ (w3.heap.size ≤ w3.heap.size ∧ Below w3.heap.size w3 w3) := ⟨hI3, Nat.le_refl _, Below.refl _ _⟩
  have F1 := Lib.hid f1
  clear f1 hI3 hI2 st
  go_wp2_with (go_at_call 11; refine (load_st st2 _ _ (fun _ h => h.1.1) hI4).mono ?_; rintro e w5 ⟨rfl, hI5⟩)
  go_wp2_with (go_at_call 11; refine (load_st st2 _ _ (fun _ h => h.1.1) hI5).mono ?_; rintro e w6 ⟨rfl, hI6⟩)
  go_wp2_with (go_at_call 11; refine (load_st st2 _ _ (fun _ h => h.1.1) hI6).mono ?_; rintro e w7 ⟨rfl, hI7⟩)
  have hf : w7.cell? ⟨g, off, none⟩ = some (.int .u32 0) := (hI7.2.2.cell (p := ⟨g, off, none⟩) hg).trans (by simpa using F1.out)
  have hc3 := C3.out
  ((refine (len_any w7 b bm c hI7.1.1).mono ?_); rintro e w8 ⟨rfl, rfl⟩)
  have hbe := hI7.1.2.2
  clear hI4 hI5 hI6 hI7 st2 l1 l2 l3
  rw [hc3]
  go_wp2
  go_ret
  exact ⟨rfl, hbe⟩

end Go.Proofs.Ytcccfckefjjoiaa
