/- For the seat: texts joined: RqN, RqO2. -/
import Derived.Test.YtpdkpkabdkefcaaGreatDoorJAv
import Derived.Test.YtpdkpkabdkefcaaGreatDoorJAu
import Derived.Test.YtpdkpkabdkefcaaGreatDoorJAt
import Derived.Test.YtpdkpkabdkefcaaGreatDoorJAo
set_option maxRecDepth 100000
namespace Go.Proofs.YtpdkpkabdkefcaaGreatDoor
open Go.Sx Go.ChangeShapes Go.WideShapes Go.RowKit Go.Joins Go.Deep Go.Rp
theorem dir19 (T : List Rp.Tok) (hT : T.length ≤ 900000) (hT2 : ∀ t ∈ T, t.t.length ≤ 1000000000000) (hn : ∀ t ∈ T, 0 ≤ t.n ∧ t.n < 4294967296) (hne : T ≠ []) (A : Option Addr) (cap : Nat) (w : World) (hA : RAt tokE w w.heap.size A T) :
    Calls Tryz.prog 77 #[.slice A T.length cap] w (DirPost (dirP T) w) := by
  by_cases h1 : 0 < sizeP (tokA T 0).t
  · exact dirA T hT hT2 hne A cap w hA h1
  by_cases h2 : (tokA T 0).t = [46, 108, 116, 111, 114, 103]
  · exact dirB T hT hT2 hne A cap w hA h2
  by_cases h3 : (tokA T 0).t = [46, 101, 113, 117]
  · exact dirC T hT hT2 hne A cap w hA ⟨h1, h3⟩
  by_cases h4 : (tokA T 0).t = [46, 97, 108, 105, 103, 110] ∨ (tokA T 0).t = [46, 115, 112, 97, 99, 101]
  · by_cases h5 : T.length = 2
    · by_cases h6 : (tokA T 1).k = 2
      · have hm : tokA T 1 ∈ T := by
          have h : tokA T 1 = T[1]'(by omega) := by unfold tokA; rw [List.getD_eq_getElem?_getD, List.getElem?_eq_getElem (by omega)]; rfl
          rw [h]
          exact List.getElem_mem _
        rcases h4 with h4 | h4
        · exact dirG T hT hT2 hne A cap w hA (hn _ hm) ⟨h1, h2, h3, h4, h5, h6⟩
        · exact dirH T hT hT2 hne A cap w hA (hn _ hm) ⟨h1, h2, h3, h4, h5, h6⟩
      · exact dirE T hT hT2 hne A cap w hA ⟨h1, h2, h3, h4, h5, h6⟩
    · exact dirD T hT hT2 hne A cap w hA ⟨h1, h2, h3, h4, h5⟩
  · exact dirF T hT hT2 hne A cap w hA ⟨h1, h2, h3, fun h => h4 (.inl h), fun h => h4 (.inr h)⟩
end Go.Proofs.YtpdkpkabdkefcaaGreatDoor
namespace Go.Proofs.YtpdkpkabdkefcaaGreatDoor
open Go.Sx Go.ChangeShapes Go.WideShapes Go.RowKit Go.Joins Go.Deep Go.Rp
set_option maxHeartbeats 8000000 in
theorem one2 (s : Bs) (hs : s.length ≤ 1000000000000) (T : List Rp.Tok) (hL : lineL s = some T) (hw : 1 < T.length) (hq : ((tokA T 0).k == 1) = false) (w : World) : Calls Tryz.prog 50 #[.string (tx s)] w (LinePost (oneX s) w) := by
  have hR0 : oneX s = oneT T [] := by
    unfold oneX; rw [hL]; show oneT (labT T) (labX T) = _; have : labB T = false := by unfold labB; rw [hq]; simp
    unfold labT labX; rw [this]; rfl
  generalize oneX s = R at hR0
  have HR0 := Lib.hid hR0
  clear hR0
  have hn := line16 s hs
  rw [hL] at hn
  obtain ⟨W1, hW1⟩ : ∃ W1, Hid (W1 = w.alloc (.cells lwZ 49)) := ⟨_, Lib.hid rfl⟩
  have b1 : Below w.heap.size w W1 := by rw [hW1.out]; exact (Below.refl _ _).alloc (Nat.le_refl _) _
  have hz1 : W1.heap[w.heap.size]? = some (.cells lwZ 49 (0, 0)) := by rw [hW1.out]; exact heap_alloc_new w _
  have hs1 : W1.heap.size = w.heap.size + 1 := by rw [hW1.out]; simp
  go_enter Tryz.func50, Tryz.ntmps50
  go_wp2_with (first
    | (refine wpList_allocW rfl (.cells lwZ 49) w.heap.size rfl (alloc_line _ _ _ _ _ _) ?_; rw [← hW1.out])
    | fail)
  ((with_reducible refine (hn _).mono ?_); rintro e w2 ⟨hret, hb2⟩)
  have bV : Below w.heap.size w w2 := b1.trans (hb2.mono b1.size)
  have hzV : w2.heap[w.heap.size]? = some (.cells lwZ 49 (0, 0)) := (hb2.block _ (by omega)).trans hz1
  have hsV : w.heap.size < w2.heap.size := by have := hb2.size; omega
  clear hn b1 hz1 hs1 hW1 hb2 hs
  unfold TokRet at hret
  obtain ⟨A, cap, rfl, hsl, hA⟩ := hret
  obtain ⟨hl256, hU2⟩ := lineL_len hL
  clear hL
  have hl1 : 1 < T.length := hw
  obtain ⟨g0, o0, hA0, hg0, hc0⟩ := hA.at_ (k := 0) (by omega)
  subst hA0
  obtain ⟨g1, o1, hA1, hg1, hc1⟩ := hA.at_ (k := 1) (by omega)
  simp only [Option.some.injEq, Addr.mk.injEq, and_true] at hA1
  obtain ⟨rfl, rfl⟩ := hA1
  have t0e : tokA T 0 = T[0]'(by omega) := by unfold tokA; rw [List.getD_eq_getElem?_getD, List.getElem?_eq_getElem (by omega)]; rfl
  have t1e : tokA T 1 = T[1]'(by omega) := by unfold tokA; rw [List.getD_eq_getElem?_getD, List.getElem?_eq_getElem (by omega)]; rfl
  have c00 : w2.cell? ⟨g0, o0, none⟩ = some (.int .i64 (tokA T 0).k) := by rw [t0e]; simpa using hc0 0 (.int .i64 (T[0]'(by omega)).k) rfl
  have c02 : w2.cell? ⟨g0, o0 + 2, none⟩ = some (.string (tx (tokA T 0).t)) := by rw [t0e]; simpa using hc0 2 (.string (tx (T[0]'(by omega)).t)) rfl
  have c10 : w2.cell? ⟨g0, o0 + 3, none⟩ = some (.int .i64 (tokA T 1).k) := by rw [t1e]; exact hc1 0 (.int .i64 (T[1]'(by omega)).k) rfl
  have c12 : w2.cell? ⟨g0, o0 + 3 + 2, none⟩ = some (.string (tx (tokA T 1).t)) := by rw [t1e]; exact hc1 2 (.string (tx (T[1]'(by omega)).t)) rfl
  have hm0 : (tokA T 0).t.length ≤ 256 := by rw [t0e]; exact (hU2 _ (List.getElem_mem _)).1
  clear hc0 hc1 t0e t1e
  have l2 : decide (1 < (T.length : Int)) = true := decide_eq_true (by omega)
  have hA2 := hA
  have q1 := hq
  clear hq
  have hne : T ≠ [] := by intro h; rw [h] at hw; simp at hw
  have hR := (HR0.out.trans (if_neg hne)).trans (if_pos (ne_of_beq_false q1))
  clear HR0
  subst hR
  have l0 : (((T.length : Nat) : Int) == 0) = false := by simp; omega
  generalize (tokA T 0).k = k0 at c00 q1
  have q1' : (k0 != 1) = true := by simpa using ne_of_beq_false q1
  have hth := there_of hzV
  clear c02 c10 c12
  go_wp2_with (first | (refine wpList_store_mid rfl 49 (.tmp 2) (.tmp 65) rfl w.heap.size 0 lwZ (by rfl) (by rfl) hth (by kernel_rfl) (lwC_one _ _ _ _ _ _ _) ?_) | fail)
  have hb7 := below_setCells bV (Nat.le_refl _) (lwZ).toList
  have hz7 := setCells_all hzV (lwZ).toList rfl
  generalize hW7 : World.setCells _ _ _ _ = W7
  have hz8 : W7.heap[w.heap.size]? = some (.cells (lwZ) 49 (0, 0)) := by rw [← hW7]; exact hz7
  have hb8 : Below w.heap.size w W7 := by rw [← hW7]; exact hb7
  exact bodyPost_ret (results_cell_row2 rfl _ _ w.heap.size 49 _ (0, 0) _ rfl hz8 Tryz.underlying49 rfl (by kernel_rfl)) rfl ⟨_, _, _, _, rfl, exAt0 _ _, hb8⟩
end Go.Proofs.YtpdkpkabdkefcaaGreatDoor
