/- For the seat: texts joined: LyT, RqO0, RqP. -/
import Derived.Test.YtpdkpkabdkefcaaGreatDoorJAy
import Derived.Test.YtpdkpkabdkefcaaGreatDoorJAw
import Derived.Test.YtpdkpkabdkefcaaGreatDoorJAo
import Derived.Test.YtpdkpkabdkefcaaGreatDoorJBc
import Derived.Test.YtpdkpkabdkefcaaGreatDoorJAz
import Derived.Test.YtpdkpkabdkefcaaGreatDoorJBd
import Derived.Test.YtpdkpkabdkefcaaGreatDoorJBa
import Derived.Test.YtpdkpkabdkefcaaGreatDoorJBb
set_option maxRecDepth 100000
namespace Go.Proofs.YtpdkpkabdkefcaaGreatDoor
open Go.Sx Go.ChangeShapes Go.WideShapes Go.RowKit Go.Joins Go.Deep Go.Rp
theorem sizesF_bd (P : List (List Int)) (hP : ∀ p ∈ P, p.length ≤ 100000) : ∀ (L : List Lw) (F : List Int) (a : Int) (n : Nat), (∀ y ∈ L, y.sz ≤ 1048576) → ∀ s ∈ sizesF P L F a n, 0 ≤ s ∧ s ≤ 1500000
  | [], F, a, n, _, s, hs => by
    simp only [sizesF, List.mem_cons, List.not_mem_nil, or_false] at hs
    subst hs
    exact poolSz_bd _ a (getD_pool hP n)
  | y :: r, F, a, n, hy, s, hs => by
    rw [sizesF] at hs
    rcases List.mem_cons.1 hs with rfl | hs
    · exact lineSz_bd P y _ a n (hy y (by simp)) hP
    · exact sizesF_bd P hP r _ _ _ (fun z hz => hy z (by simp [hz])) s hs
set_option maxHeartbeats 8000000 in
theorem new_l (L : List Lw) (hL : L.length ≤ 1000) (hsz : ∀ y ∈ L, y.sz ≤ 1048576) (F : List Int) (hF : ∀ f ∈ F, okF f) (hFl : F.length ≤ 1000000) (P : List (List Int)) (hP : ∀ p ∈ P, p.length ≤ 100000) (hPl : P.length ≤ 1000000) (V : List Int)
    (A AF AP AV : Option Addr) (cA cF cP cV : Nat) (hcA : L.length ≤ cA) (w : World) (hA : LsAt w (fun g => g < w.heap.size) A L) (hAF : IAt w w.heap.size AF F) (hAP : PlAt w w.heap.size AP P) (hAV : IAt w w.heap.size AV V) :
    Calls Tryz.prog 31 #[.slice A L.length cA, .slice AF F.length cF, .slice AP P.length cP, .slice AV V.length cV] w fun e w' => ∃ b, e = .returned (.pointer (some ⟨b, 0, none⟩)) ∧ w.heap.size ≤ b ∧ DeskAt w' b L P V (insideL L) (addrL L F P) ∧ Below w.heap.size w w' := by
  have hin := inside_b L (by omega) A cA w _ hA (fun _ h => h)
  have hsi := fun W (hb : Below w.heap.size w W) => sizes_l L hL hsz F hF hFl P hP hPl A AF AP cA cF cP W _ (hA.below (fun _ h => h) hb) (fun g hg => Nat.lt_of_lt_of_le hg hb.size) ((hAF.below hb (Nat.le_refl _)).more hb.size) ((hAP.below hb (Nat.le_refl _)).more hb.size)
  have hbd := sizesF_bd P hP L F 0 0 hsz
  have hsl := sizesF_len P L F 0 0
  have had := fun W A2 c2 h => addr_l L hL (sizesF P L F 0 0) hsl hbd A A2 cA c2 W h
  have hR : addrL L F P = addrF L (sizesF P L F 0 0) 0 := rfl
  rw [hR]
  clear hR
  generalize addrF L (sizesF P L F 0 0) 0 = R at had
  generalize sizesF P L F 0 0 = S at hsi had hbd hsl
  generalize insideL L = I at hin
  unfold BoolsRet at hin
  unfold IntRet at hsi had
  have HSi := Lib.hid hsi
  have HAd := Lib.hid had
  clear hsi had hbd hsl
  go_enter Tryz.func31, Tryz.ntmps31
  go_wp2_with (fail)
  ((with_reducible refine hin.mono ?_); rintro e w1 ⟨⟨A1, c1, rfl, _, hI1, hq1⟩, hb1⟩)
  go_wp2_with (fail)
  ((with_reducible refine (HSi.out w1 hb1).mono ?_); rintro e w2 ⟨⟨A2, c2, rfl, _, hS2, hq2⟩, hb2⟩)
  go_wp2_with (fail)
  ((with_reducible refine (HAd.out w2 A2 c2 hS2).mono ?_); rintro e w3 ⟨⟨A3, c3, rfl, _, hR3, hq3⟩, hb3⟩)
  have B2 := hb1.trans (hb2.mono hb1.size)
  have B3 := B2.trans (hb3.mono B2.size)
  have J13 := hb2.trans (hb3.mono hb2.size)
  obtain ⟨W, hW⟩ : ∃ W, Hid (W = w3.alloc (.cells #[.slice A L.length cA, .slice AP P.length cP, .slice AV V.length cV, .slice A1 I.length c1, .slice A3 R.length c3] 62)) := ⟨_, Lib.hid rfl⟩
  have b3 : Below w3.heap.size w3 W := by rw [hW.out]; exact (Below.refl _ _).alloc (Nat.le_refl _) _
  have hw0 : W.heap[w3.heap.size]? = some (.cells #[.slice A L.length cA, .slice AP P.length cP, .slice AV V.length cV, .slice A1 I.length c1, .slice A3 R.length c3] 62 (0, 0)) := by rw [hW.out]; exact heap_alloc_new w3 _
  have BW := B3.trans (b3.mono B3.size)
  have hD : DeskAt W w3.heap.size L P V I R := ⟨A, cA, AP, cP, AV, cV, A1, c1, A3, c3, hw0, hcA, hA.keep (fun g hg => Nat.lt_of_lt_of_le hg BW.size) (fun g hg => BW.block g hg), (hAP.below BW (Nat.le_refl _)).more BW.size, (hAV.below BW (Nat.le_refl _)).more BW.size,
    ((hI1.below J13 (Nat.le_refl _)).below b3 J13.size).more (Nat.le_trans J13.size b3.size), (hR3.below b3 (Nat.le_refl _)).more b3.size⟩
  have hle := B3.size
  clear hI1 hS2 hR3 hq1 hq2 hq3 hb1 hb2 hb3 hw0 hA hAF hAP hAV hin
  go_wp2_with (first | rw [← hW.out] | fail)
  exact bodyPost_ret (results_tmp rfl _ _ _) rfl ⟨_, rfl, hle, hD, BW⟩
end Go.Proofs.YtpdkpkabdkefcaaGreatDoor
namespace Go.Proofs.YtpdkpkabdkefcaaGreatDoor
open Go.Sx Go.ChangeShapes Go.WideShapes Go.RowKit Go.Joins Go.Deep Go.Rp
set_option maxHeartbeats 8000000 in
theorem one0 (s : Bs) (hs : s.length ≤ 1000000000000) (hL : lineL s = none) (w : World) : Calls Tryz.prog 50 #[.string (tx s)] w (LinePost (oneX s) w) := by
  have hR0 : oneX s = (lw0, 3) := by
    unfold oneX; rw [hL]
  generalize oneX s = R at hR0
  have HR0 := Lib.hid hR0
  clear hR0
  have hn := line16 s hs
  rw [hL] at hn
  obtain ⟨W1, hW1⟩ : ∃ W1, Hid (W1 = w.alloc (.cells lwZ 49)) := ⟨_, Lib.hid rfl⟩
  have b1 : Below w.heap.size w W1 := by rw [hW1.out]; exact (Below.refl _ _).alloc (Nat.le_refl _) _
  have hz1 : W1.heap[w.heap.size]? = some (.cells lwZ 49 (0, 0)) := by rw [hW1.out]; exact heap_alloc_new w _
  have hs1 : W1.heap.size = w.heap.size + 1 := by rw [hW1.out]; simp
  go_enter Tryz.func50, Tryz.ntmps50
  go_wp2_with (first
    | (refine wpList_allocW rfl (.cells lwZ 49) w.heap.size rfl (alloc_line _ _ _ _ _ _) ?_; rw [← hW1.out])
    | fail)
  ((with_reducible refine (hn _).mono ?_); rintro e w2 ⟨hret, hb2⟩)
  have bV : Below w.heap.size w w2 := b1.trans (hb2.mono b1.size)
  have hzV : w2.heap[w.heap.size]? = some (.cells lwZ 49 (0, 0)) := (hb2.block _ (by omega)).trans hz1
  have hsV : w.heap.size < w2.heap.size := by have := hb2.size; omega
  clear hn b1 hz1 hs1 hW1 hb2 hs
  unfold TokRet at hret
  subst hret
  have hR := HR0.out
  clear HR0
  subst hR
  have hth := there_of hzV
  go_wp2_with (first | (refine wpList_store_mid rfl 49 (.tmp 2) (.tmp 17) rfl w.heap.size 0 lwZ (by rfl) (by rfl) hth (by kernel_rfl) (lwC_one _ _ _ _ _ _ _) ?_) | fail)
  have hb7 := below_setCells bV (Nat.le_refl _) (lwZ).toList
  have hz7 := setCells_all hzV (lwZ).toList rfl
  generalize hW7 : World.setCells _ _ _ _ = W7
  have hz8 : W7.heap[w.heap.size]? = some (.cells (lwZ) 49 (0, 0)) := by rw [← hW7]; exact hz7
  have hb8 : Below w.heap.size w W7 := by rw [← hW7]; exact hb7
  exact bodyPost_ret (results_cell_row2 rfl _ _ w.heap.size 49 _ (0, 0) _ rfl hz8 Tryz.underlying49 rfl (by kernel_rfl)) rfl ⟨_, _, _, _, rfl, exAt0 _ _, hb8⟩
end Go.Proofs.YtpdkpkabdkefcaaGreatDoor
namespace Go.Proofs.YtpdkpkabdkefcaaGreatDoor
open Go.Sx Go.ChangeShapes Go.WideShapes Go.RowKit Go.Joins Go.Deep Go.Rp
theorem one19 (s : Bs) (hs : s.length ≤ 1000000000000) (w : World) : Calls Tryz.prog 50 #[.string (tx s)] w (LinePost (oneX s) w) := by
  cases hL : lineL s with
  | none => exact one0 s hs hL w
  | some T =>
    by_cases h1 : 1 < T.length
    · cases q1 : ((tokA T 0).k == 1)
      · exact one2 s hs T hL h1 q1 w
      cases q2 : ((tokA T 1).k == 3)
      · exact one3 s hs T hL h1 ⟨q1, q2⟩ w
      cases q3 : ((tokA T 1).t == [58])
      · exact one4 s hs T hL h1 ⟨q1, q2, q3⟩ w
      cases q4 : isNm (tokA T 0).t
      · exact one5 s hs T hL h1 ⟨q1, q2, q3, q4⟩ w
      · exact one6 s hs T hL h1 ⟨q1, q2, q3, q4⟩ w
    · exact one1 s hs T hL (by omega) w
end Go.Proofs.YtpdkpkabdkefcaaGreatDoor
