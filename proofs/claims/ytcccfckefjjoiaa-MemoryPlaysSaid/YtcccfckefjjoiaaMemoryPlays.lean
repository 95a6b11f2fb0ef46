/- MemoryPlays: for all cells and all deeds the law returns true, and the arguments read as before. No condition. -/
import Derived.Test.YtcccfckefjjoiaaMemoryNone
import Derived.Test.YtcccfckefjjoiaaMemGrow
import Derived.BigQuiet
namespace Go.Proofs.Ytcccfckefjjoiaa
open Go.ChangeShapes Go.WideShapes Go.ChangeAt Go.RowKit Go.Mem Go.Sort Go.Deep

namespace memoryPlays

/-- A slice of deeds. -/
def DeAt (w : World) (B : Nat) (A : Option Addr) (ds : List (Int × Int × Int)) : Prop :=
  ds ≠ [] → ∃ g off, A = some ⟨g, off, none⟩ ∧ g < B ∧ ∀ (i : Nat) (p : Int × Int × Int), ds[i]? = some p →
    w.cell? ⟨g, off + i * 3, none⟩ = some (.int .u32 p.1) ∧ w.cell? ⟨g, off + i * 3 + 1, none⟩ = some (.int .i64 p.2.1) ∧ w.cell? ⟨g, off + i * 3 + 2, none⟩ = some (.int .u32 p.2.2)
theorem DeAt.below {w w' : World} {B B' : Nat} {A : Option Addr} {ds : List (Int × Int × Int)} (h : DeAt w B A ds) (hb : Below B' w w') (hB : B ≤ B') : DeAt w' B A ds := by
  intro hn
  obtain ⟨g, off, e, hg, hc⟩ := h hn
  exact ⟨g, off, e, hg, fun i p hp => ⟨(hb.cell (p := ⟨g, off + i * 3, none⟩) (by show g < B'; omega)).trans (hc i p hp).1, (hb.cell (p := ⟨g, off + i * 3 + 1, none⟩) (by show g < B'; omega)).trans (hc i p hp).2.1, (hb.cell (p := ⟨g, off + i * 3 + 2, none⟩) (by show g < B'; omega)).trans (hc i p hp).2.2⟩⟩

/-- The deed's box. -/
def Box (B : Nat) (a n v : Int) (x : World) : Prop := x.cell? ⟨B, 0, none⟩ = some (.int .u32 a) ∧ x.cell? ⟨B, 1, none⟩ = some (.int .i64 n) ∧ x.cell? ⟨B, 2, none⟩ = some (.int .u32 v)
theorem Box.new (w : World) (a n v : Int) (t : TypeId) : Box w.heap.size a n v (w.alloc (.cells #[.int .u32 a, .int .i64 n, .int .u32 v] t)) :=
  ⟨cell_of_row _ _ _ _ t (0, 0) (heap_alloc_new w _), cell_of_row _ _ _ _ t (0, 0) (heap_alloc_new w _), cell_of_row _ _ _ _ t (0, 0) (heap_alloc_new w _)⟩
theorem Box.below {B : Nat} {a n v : Int} {x y : World} (h : Box B a n v x) {C : Nat} (hb : Below C x y) (hB : B < C) : Box B a n v y :=
  ⟨(hb.cell (p := ⟨B, 0, none⟩) hB).trans h.1, (hb.cell (p := ⟨B, 1, none⟩) hB).trans h.2.1, (hb.cell (p := ⟨B, 2, none⟩) hB).trans h.2.2⟩

/-- The memory, the deed's box, the reference's cells, and what has been made. -/
structure Inv (w : World) (B : Nat) (a n v : Int) (b bm : Nat) (c : Cells) (A : Option Addr) (x : World) : Prop where
  mem : MemAt x b bm c
  box : Box B a n v x
  row : ClAt x x.heap.size A c
  lt : B < x.heap.size
  size : w.heap.size ≤ x.heap.size
  low : Below w.heap.size w x
theorem Inv.st (w : World) (B : Nat) (a n v : Int) (b bm : Nat) (c : Cells) (A : Option Addr) : Stable (Inv w B a n v b bm c A) := fun x y h hb =>
  ⟨Stable.mem b bm c x y h.mem hb, h.box.below hb h.lt, Stable.cl A c x y h.row hb, Nat.lt_of_lt_of_le h.lt hb.size, Nat.le_trans h.size hb.size, h.low.trans (hb.mono h.size)⟩

theorem rload_at (w : World) (B : Nat) (a n v : Int) (b bm : Nat) (c : Cells) (A : Option Addr) (cap : Nat) (at_ x : Int) (wq : World) (h : Inv w B a n v b bm c A wq) (hl : c.length ≤ maxLen) (k : Nat) (os : Array Obj) :
    Calls Try.prog 12 #[.slice A c.length cap, .int .u32 at_, .int .i64 x] (grow (wq.drewN k) os) fun e w' => e = .returned (.int .u32 (loadL c at_ x)) ∧ ∃ q os', w' = grow ((grow (wq.drewN k) os).drewN q) os' :=
  (rLoad_full c A cap at_ x _ ((Inv.st w B a n v b bm c A _ _ h (Gr.below ⟨k, os, rfl⟩)).row) hl h.mem.is.2).mono fun _ _ ⟨he, hw⟩ => ⟨he, hw ▸ Gr.refl _⟩

theorem len_at (wq : World) (b bm : Nat) (c : Cells) (hm : MemAt wq b bm c) (k : Nat) (os : Array Obj) :
    Calls Try.prog 15 #[.pointer (some ⟨b, 0, none⟩)] (grow (wq.drewN k) os) fun e w' => e = .returned (.int .i64 c.length) ∧ ∃ q os', w' = grow ((grow (wq.drewN k) os).drewN q) os' :=
  (len_any _ b bm c (hm.below (Gr.below ⟨k, os, rfl⟩) hm.lt.1 hm.lt.2)).mono fun _ _ ⟨he, hw⟩ => ⟨he, hw ▸ Gr.refl _⟩

set_option maxHeartbeats 4000000 in
theorem walk (l : Cells) (A A' : Option Addr) (cap cap' : Nat) (ds : List (Int × Int × Int)) (w : World) (h : ClAt w w.heap.size A l) (hr : InR l) (hd : DeAt w w.heap.size A' ds) (hdr : ∀ p ∈ ds, 0 ≤ p.2.2 ∧ p.2.2 < 4294967296) :
    Calls Try.prog 3 #[.slice A l.length cap, .slice A' ds.length cap'] w fun e w' => e = .returned (.bool true) ∧ Below w.heap.size w w' := by
  by_cases hl : 200 < l.length
  · have hnl : decide ((200 : Int) < (l.length : Int)) = true := by simp; omega
    go_enter Try.func3, Try.ntmps3
    go_wp2_with fail
    ((with_reducible refine (awake_any _).mono ?_); rintro e w1 ⟨rfl, hb⟩)
    go_wp2
    go_ret
    exact ⟨rfl, hb⟩
  · have hnl : decide ((200 : Int) < (l.length : Int)) = false := by simp; omega
    by_cases hl' : 200 < ds.length
    · have hnl' : decide ((200 : Int) < (ds.length : Int)) = true := by simp; omega
      go_enter Try.func3, Try.ntmps3
      go_wp2_with fail
      ((with_reducible refine (awake_any _).mono ?_); rintro e w1 ⟨rfl, hb⟩)
      go_wp2
      go_ret
      exact ⟨rfl, hb⟩
    · have hnl' : decide ((200 : Int) < (ds.length : Int)) = false := by simp; omega
      have hl2 : l.length ≤ 4294967296 := by omega
      go_enter Try.func3, Try.ntmps3
      go_wp2_with fail
      ((with_reducible refine (new_ex l A cap w h hl2 hr).mono ?_); rintro e w1 ⟨b, bm, rfl, hm1, hb0, hbm0, hb1⟩)
      go_wp2_with fail
      ((with_reducible refine (rNew_any l A cap w1 ((h.below hb1 (Nat.le_refl _)).more hb1.size) hl2).mono ?_); rintro e w2 ⟨A2, cap2, rfl, hA2, hb2⟩)
      have hm2 := hm1.below hb2 hm1.lt.1 hm1.lt.2
      have hbb := hb1.trans (hb2.mono hb1.size)
      have hlen := length_new_le l
      have hrn := inR_new l hr
      clear hm1 hb1 hb2 h
      generalize newL l = c0 at *
      go_wp2_with fail
      go_loopw [6, 7] (fun o k wr => ∃ (i : Nat) (c : Cells) (A3 : Option Addr) (cap3 : Nat), i ≤ ds.length ∧ k = .int .i64 i ∧ o = .slice A3 c.length cap3 ∧ MemAt wr b bm c ∧ ClAt wr wr.heap.size A3 c ∧ c.length ≤ 200 + 4 * i ∧ (w.heap.size ≤ wr.heap.size ∧ Below w.heap.size w wr)) (fun _ k _ => ds.length - (intOf k).toNat)
      case atStart => exact ⟨0, c0, A2, cap2, by omega, rfl, rfl, hm2, hA2, by omega, hbb.size, hbb⟩
      case round =>
        clear hm2 hA2 hbb
        obtain ⟨i, c, A3, cap3, hi, rfl, rfl, hm, hA3, hlc, hbs, hbr⟩ := hrel
        by_cases hlt : i < ds.length
        · obtain ⟨g, off, rfl, hg, hcells⟩ := hd (by intro e; subst e; simp at hlt)
          have hge := List.getElem?_eq_getElem hlt
          have hvr := hdr _ (List.getElem_mem hlt)
          obtain ⟨h1, h2, h3⟩ := hcells i _ hge
          clear hcells hge
          generalize hp : ds[i] = p at *
          obtain ⟨da, dn, dv⟩ := p
          simp only at h1 h2 h3 hvr
          clear hp
          have f1 := (hbr.cell (p := ⟨g, off + i * 3, none⟩) hg).trans h1
          have f2 := (hbr.cell (p := ⟨g, off + i * 3 + 1, none⟩) hg).trans h2
          have f3 := (hbr.cell (p := ⟨g, off + i * 3 + 2, none⟩) hg).trans h3
          have hi0 : (0 : Int) ≤ (i : Int) := by omega
          have hi1 : (i : Int) < (ds.length : Int) := by omega
          have hbox := Box.new wr da dn dv 30
          have hbel : Below wr.heap.size wr (wr.alloc (.cells #[.int .u32 da, .int .i64 dn, .int .u32 dv] 30)) := (Below.refl _ _).alloc (Nat.le_refl _) _
          have hin := hm.is.2
          have hbmr := hm.lt.2
          have hIq : Inv w wr.heap.size da dn dv b bm c A3 (wr.alloc (.cells #[.int .u32 da, .int .i64 dn, .int .u32 dv] 30)) := ⟨hm.below hbel hm.lt.1 hm.lt.2, hbox, (hA3.below hbel (Nat.le_refl _)).more (by simp), by simp, by simp; omega, hbr.trans (hbel.mono hbs)⟩
          clear hbox hbel hm hA3
          go_wp2_with fail
          clear f1 f2 f3 h1 h2 h3
          generalize wr.alloc (.cells #[.int .u32 da, .int .i64 dn, .int .u32 dv] 30) = wq at *
          have st := Inv.st w wr.heap.size da dn dv b bm c A3
          have hmx := mixed
          have F1 := cell_grown (w := wq) (a := ⟨wr.heap.size, 0, none⟩) hIq.lt hIq.box.1
          have F2 := cell_grown (w := wq) (a := ⟨wr.heap.size, 1, none⟩) hIq.lt hIq.box.2.1
          have hld := fun k os => load_at wq b bm c da dn hIq.mem k os
          have hrl := fun k os => rload_at w wr.heap.size da dn dv b bm c A3 cap3 da dn wq hIq (by unfold maxLen; omega) k os
          generalize loadL c da dn = X at hld hrl
          have hne : (X != X) = false := by simp
          refine wp_region_quiet_grown (by assumption) (by kernel_rfl) ?_
          repeat (go_big_quiet_step ((first | (go_at_call 11; refine Calls.grown_of (hld _ _)) | (go_at_call 12; refine Calls.grown_of (hrl _ _)))))
          refine wpQuiet_nil ?_
          intro _ hw'
          obtain ⟨⟨nq, osq⟩, hw''⟩ := hw'
          subst hw''
          have hI5 := st _ _ hIq (Gr.below ⟨nq, osq, rfl⟩)
          clear hld hrl F1 F2 hne hIq
          generalize grow (wq.drewN nq) osq = w5 at *
          obtain ⟨f1, f2, f3⟩ := hI5.box
          have hst := store_full w5 b bm c da dn dv hvr.1 hvr.2 hI5.mem
          go_wp2_with fail
          ((with_reducible refine hst.mono ?_); rintro e w6 ⟨rfl, hm6, hg6⟩)
          have hbl6 : Below w.heap.size w w6 := hI5.low.grown hg6 (by have := hI5.size; have := hI5.lt; omega) (fun j hj => by cases hj; omega)
          have hB6 : Box wr.heap.size da dn dv w6 := ⟨grownBy_far f1 hg6 (by intro e; have := Option.some.inj e; simp at this; omega), grownBy_far f2 hg6 (by intro e; have := Option.some.inj e; simp at this; omega), grownBy_far f3 hg6 (by intro e; have := Option.some.inj e; simp at this; omega)⟩
          have hA6 : ClAt w6 w6.heap.size A3 c := (hI5.row.map hg6 (by obtain ⟨_, D, ⟨es, clock, hh, _⟩, _⟩ := hI5.mem; exact ⟨es, clock, hh⟩)).more hg6.size
          have hs6 : wr.heap.size + 1 ≤ w6.heap.size := Nat.le_trans (by have := hI5.lt; omega) hg6.size
          have hlc2 := length_store_le c da dn dv
          have hrs := rStore_full c A3 cap3 da dn dv w6 hA6 (by omega) hvr.1 hvr.2
          clear hst hI5 hg6 st f1 f2 f3
          have hin2 := inR_store hin da dn dv
          generalize storeL c da dn dv = c2 at *
          obtain ⟨f1, f2, f3⟩ := id hB6
          go_wp2_with fail
          ((with_reducible refine hrs.mono ?_); rintro e w7 ⟨A7, cap7, rfl, hA7, hb7⟩)
          have hI7 : Inv w wr.heap.size da dn dv b bm c2 A7 w7 := ⟨hm6.below hb7 hm6.lt.1 hm6.lt.2, hB6.below hb7 (by omega), hA7, by have := hb7.size; omega, by have := hb7.size; omega, hbl6.trans (hb7.mono (by omega))⟩
          clear hrs hm6 hbl6 hB6 hA6 hA7 hb7 f1 f2 f3
          have st := Inv.st w wr.heap.size da dn dv b bm c2 A7
          obtain ⟨f1, f2, f3⟩ := hI7.box
          go_wp2_with fail
          have hmx := mixed
          have F1 := cell_grown (w := w7) (a := ⟨wr.heap.size, 0, none⟩) hI7.lt hI7.box.1
          have hld := fun k os => load_at w7 b bm c2 da 4 hI7.mem k os
          have hrl := fun k os => rload_at w wr.heap.size da dn dv b bm c2 A7 cap7 da 4 w7 hI7 (by unfold maxLen; omega) k os
          have hln := fun k os => len_at w7 b bm c2 hI7.mem k os
          clear f1 f2 f3
          generalize loadL c2 da 4 = X at hld hrl
          have hne : (X != X) = false := by simp
          have hn2 : ((c2.length : Int) != (c2.length : Int)) = false := by simp
          refine wp_region_quiet_grown (by assumption) (by kernel_rfl) ?_
          repeat (go_big_quiet_step ((first | (go_at_call 11; refine Calls.grown_of (hld _ _)) | (go_at_call 12; refine Calls.grown_of (hrl _ _)) | (go_at_call 15; refine Calls.grown_of (hln _ _)))))
          refine wpQuiet_nil ?_
          intro _ hw'
          obtain ⟨⟨nq2, osq2⟩, hw''⟩ := hw'
          subst hw''
          have hI9 := st _ _ hI7 (Gr.below ⟨nq2, osq2, rfl⟩)
          clear hld hrl hln F1 hne hn2 hI7
          generalize grow (w7.drewN nq2) osq2 = w9 at *
          go_wp2
          go_roundw
          case rel => exact ⟨i + 1, c2, A7, cap7, by omega, by go_num, rfl, hI9.mem, hI9.row, by omega, hI9.size, hI9.low⟩
          case measure => simp [intOf]; omega
        · have e : i = ds.length := by omega
          subst e
          have st3 : Stable fun x => ClAt x x.heap.size A3 c ∧ MemAt x b bm c ∧ (w.heap.size ≤ x.heap.size ∧ Below w.heap.size w x) := (Stable.cl A3 c).and ((Stable.mem b bm c).and (Stable.base _ _))
          go_wp2_with fail
          ((with_reducible refine (cells_st st3 (fun _ h => h.2.1) ⟨hA3, hm, hbs, hbr⟩).mono ?_); rintro e w4 ⟨A4, cap4, rfl, hI4, hA4⟩)
          go_wp2_with fail
          ((with_reducible refine (rSame_any c A4 A3 cap4 cap3 w4 hA4 hI4.1 (by omega)).mono ?_); rintro e w5 ⟨rfl, hb5⟩)
          have hb5' := hI4.2.2.2.trans (hb5.mono hI4.2.2.1)
          have hs5 := Nat.le_trans hI4.2.2.1 hb5.size
          clear hA3 hm hbr hI4 hA4 hb5 st3
          go_wp2_with fail
          ((with_reducible refine (awake_any w5).mono ?_); rintro e w7 ⟨rfl, hb7⟩)
          have hbe := hb5'.trans (hb7.mono hs5)
          clear hb5' hb7
          go_wp2
          go_ret
          exact ⟨rfl, hbe⟩

section
variable {H : Type} {enc : TypeId × Value → H}
/-- An argument that is a slice of deeds. -/
theorem open_deeds {W : World} {r : Reach} {b0 : Nat} {v : Value} {d : DataW H} {p : List MemPlace} (hv : Value.okWide Try.prog W r b0 23 v)
    (h : DataW.Trod enc Try.prog W 0 (fun _ => true) true 23 v d p) : ∃ (A : Option Addr) (cap : Nat) (l : List (Int × Int × Int)), v = .slice A l.length cap ∧ DeAt W W.heap.size A l ∧ (∀ q ∈ l, 0 ≤ q.2.2 ∧ q.2.2 < 4294967296) := by
  obtain ⟨fuel, hf⟩ := h
  obtain ⟨a0, n0, c0, rfl⟩ := okWide_slice Try.underlying23 hv
  rcases open_slice Try.underlying23 hf with ⟨hc, _⟩ | ⟨a, len, cap, m, n, D, Pl, hc, _, hl, hm, hmm, hx, hi⟩
  · simp [Value.cells] at hc
    obtain ⟨rfl, rfl, rfl⟩ := hc
    exact ⟨none, 0, [], rfl, fun h => absurd rfl h, fun q hq => by cases hq⟩
  · simp [Value.cells] at hc
    obtain ⟨rfl, rfl, rfl⟩ := hc
    simp only [if_true] at hmm
    subst hmm
    have hcc : Try.prog.cellsOf 30 = 3 := by kernel_rfl
    have hc1 : Try.prog.cellsOf 28 = 1 := by kernel_rfl
    have hc2 : Try.prog.cellsOf 3 = 1 := by kernel_rfl
    have each : ∀ i, i < n0 → ∃ q : Int × Int × Int, W.cell? (a.add (i * 3)) = some (.int .u32 q.1) ∧ W.cell? ((a.add (i * 3)).add 1) = some (.int .i64 q.2.1) ∧ W.cell? ((a.add (i * 3)).add 2) = some (.int .u32 q.2.2) ∧ (0 ≤ q.2.2 ∧ q.2.2 < 4294967296) := by
      intro i hin
      obtain ⟨cs, h1, h2⟩ := hi i (by omega)
      rw [hcc] at h1
      obtain ⟨_, hlen, hat⟩ := World.cells?_some h1
      obtain ⟨ys, n', _, _, _, hyl, hg⟩ := DataW.trod_struct Try.underlying30 h2
      match cs, hlen, ys, hyl with
      | [x, y, z], _, [z0, z1, z2], _ =>
        have g0 := hg 0 _ rfl
        have g1 := hg 1 _ rfl
        have g2 := hg 2 _ rfl
        simp [hc1] at g0
        simp [hc2] at g1
        simp [hc1] at g2
        obtain ⟨q0, e0, _, _⟩ := DataW.trod_int Try.underlying28 g0
        obtain ⟨q1, e1, _, _⟩ := DataW.trod_int Try.underlying3 g1
        obtain ⟨q2, e2, _, w2⟩ := DataW.trod_int Try.underlying28 g2
        have k0 := hat 0 (by omega)
        have k1 := hat 1 (by omega)
        have k2 := hat 2 (by omega)
        simp at e0 e1 e2
        subst e0
        subst e1
        subst e2
        refine ⟨(q0, q1, q2), by simpa [Addr.add] using k0, by simpa using k1, by simpa using k2, ?_⟩
        have r1 : 0 ≤ q2 ∧ q2 ≤ 4294967295 := by simpa [Lit.wf, IntKind.min, IntKind.max, IntKind.bits, IntKind.signed] using w2
        simp only
        omega
    have hch : ∃ F : Nat → Int × Int × Int, ∀ i, i < n0 → W.cell? (a.add (i * 3)) = some (.int .u32 (F i).1) ∧ W.cell? ((a.add (i * 3)).add 1) = some (.int .i64 (F i).2.1) ∧ W.cell? ((a.add (i * 3)).add 2) = some (.int .u32 (F i).2.2) ∧ (0 ≤ (F i).2.2 ∧ (F i).2.2 < 4294967296) := by
      refine ⟨fun i => if h : i < n0 then Classical.choose (each i h) else (0, 0, 0), fun i hin => ?_⟩
      simp only [hin, dif_pos]
      exact Classical.choose_spec (each i hin)
    obtain ⟨F, hF⟩ := hch
    refine ⟨some a, _, (List.range n0).map F, by rw [List.length_map, List.length_range], ?_, ?_⟩
    · intro hne
      have hn0 : 0 < n0 := by
        rcases Nat.eq_zero_or_pos n0 with e | e
        · subst e; simp at hne
        · exact e
      have k0 := (hF 0 hn0).1
      have hsp : a.spot = none := by
        have : a.add (0 * 3) = a := by simp [Addr.add]
        rw [this] at k0
        exact oneNone k0
      have hab : a.block < W.heap.size := by
        have := World.block_lt_of_cell? W _ k0
        simpa [Addr.add] using this
      obtain ⟨ab, ao, asp⟩ := a
      simp only at hsp hab
      subst hsp
      have hadd : ∀ m n, (⟨ab, m, none⟩ : Addr).add n = ⟨ab, m + n, none⟩ := fun m n => by unfold Addr.add; split <;> simp_all
      refine ⟨ab, ao, rfl, hab, fun i p hp => ?_⟩
      have hin : i < n0 := by
        have := (List.getElem?_eq_some_iff.1 hp).1
        simpa using this
      have hp' : F i = p := by simpa [hin] using hp
      have := hF i hin
      rw [hp', hadd, hadd, hadd] at this
      exact ⟨this.1, this.2.1, this.2.2.1⟩
    · intro p hp
      obtain ⟨i, hin, rfl⟩ := List.mem_map.1 hp
      exact (hF i (by simpa using hin)).2.2.2
end

theorem contract (H : Type) (enc : TypeId × Value → H) (W : World) (base : Nat) (args : Array Value) (ds gs : List (DataW H)) (before : List MemPlace)
    (hval : ∀ (j : Nat) t v, Try.f3.params[j]? = some t → args[j]? = some v → Value.okWide Try.prog W .any base t v)
    (hW : DataW.Whole enc Try.prog Try.f3.params.toList Rows.memoryPlaysSpec.vars false W args.toList ds gs before) :
    Calls Try.prog 3 args W fun e W' => ∃ v, e = .returned v ∧ Rows.memoryPlaysSpec.post enc Try.prog Try.f3 false true false false W args v W' := by
  have hW' := hW
  obtain ⟨p, q, hA, _, rfl, _, _⟩ := hW
  rw [Try.params3] at hA hval
  obtain ⟨v0, v1, d0, d1, p0, p1, rfl, rfl, rfl, h0, h1⟩ := trodAll_two hA
  obtain ⟨A, cap, l, rfl, hcl, hin, _⟩ := open_cells (hval 0 22 v0 rfl rfl) h0
  obtain ⟨A', cap', l', rfl, hdl, hdr⟩ := open_deeds (hval 1 23 v1 rfl rfl) h1
  refine (walk l A A' cap cap' l' W hcl hin hdl hdr).mono fun e W' ⟨he, hb⟩ => ⟨_, he, ?_⟩
  exact law_post laidOut rfl (by rw [Try.params3]; intro t ht; simp at ht; rcases ht with rfl | rfl <;> exact ⟨by kernel_rfl, of_decide_eq_true (by kernel_rfl)⟩) hW' hb (by kernel_rfl) Try.underlying4 rfl

set_option maxRecDepth 100000 in
theorem lifted (os : Os) (started : os.Started) (H : Type) (enc : TypeId × Value → H) :
    ReturnsInHanded {} Try.checked os 3 .any (Rows.memoryPlaysSpec.pre6 enc Try.prog Try.f3 Rows.memoryPlaysRow.domain false) (Rows.memoryPlaysSpec.post enc Try.prog Try.f3 false true false false) := by
  refine returnsInHanded_of_change (C := Try.checked) own started (by kernel_rfl) Try.func3
    (ChangeSpec.witness6 (enc := enc) (C := Try.checked) false ⟨#[], #[.slice none 0 0, .slice none 0 0], []⟩ 8 (by kernel_rfl) (by kernel_rfl) (by kernel_rfl) (by kernel_rfl)) ?_
  intro W base args ds gs before hval hW _ _
  exact contract H enc W base args ds gs before hval hW

theorem proved : Rows.MemoryPlaysSaid :=
  OpenClaim.holds_of_wide 3 Try.f3 rfl rfl rfl rfl rfl rfl rfl ⟨rfl, rfl, rfl, rfl, rfl⟩ rfl rfl rfl rfl rfl (by kernel_rfl) Try.func3 (by kernel_rfl)
    (of_decide_eq_true (by kernel_rfl)) (by unfold Func.isWrapper; first | (rw [if_pos (by decide +kernel)]; kernel_rfl) | (rw [if_neg (by decide +kernel)]; exact ⟨rfl, rfl⟩))
    (fun os started H enc _ => lifted os started H enc)

end memoryPlays
end Go.Proofs.Ytcccfckefjjoiaa
