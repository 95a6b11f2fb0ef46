/- For the seat: texts joined: LzD, RqT, RqU, MyA. -/
import Derived.Test.YtpdkpkabdkefcaaGreatDoorJAy
import Derived.Laws.AppendOwnNone
import Derived.Test.YtpdkpkabdkefcaaGreatDoorJAx
import Derived.Test.YtpdkpkabdkefcaaGreatDoorJBe
import Derived.Test.YtpdkpkabdkefcaaGreatDoorJAj
set_option maxRecDepth 100000
namespace Go.Proofs.YtpdkpkabdkefcaaGreatDoor
open Go.Sx Go.ChangeShapes Go.WideShapes Go.RowKit Go.Joins Go.Deep Go.Rp
def RawLs (w : World) (K : Nat → Prop) (xs : List Value) (L : List Lw) : Prop :=
  xs.length = L.length * 19 ∧ ∀ (i : Nat) (hi : i < L.length), okW L[i] ∧ ∃ o n s A2 m c, (∀ (j : Nat) (v : Value), (lwX L[i] o n s A2 m c)[j]? = some v → xs[i * 19 + j]? = some v) ∧ ExAt w K L[i].ex (.agg (exC o n s A2 m c))
theorem lwX_size (y : Lw) (o n : Int) (s : Bs) (A2 : Option Addr) (m c : Nat) : (lwX y o n s A2 m c).size = 19 := rfl
theorem lwX_one (y : Lw) (o n : Int) (s : Bs) (A2 : Option Addr) (m c : Nat) {j : Nat} {v : Value} (h : (lwX y o n s A2 m c)[j]? = some v) : v.oneCell' = true := by
  have hj : j < 19 := (Array.getElem?_eq_some_iff.1 h).1
  match j, hj, h with
  | 0, _, h | 1, _, h | 2, _, h | 3, _, h | 4, _, h | 5, _, h | 6, _, h | 7, _, h | 8, _, h | 9, _, h | 10, _, h | 11, _, h | 12, _, h | 13, _, h | 14, _, h | 15, _, h | 16, _, h | 17, _, h | 18, _, h => simp at h; subst h; rfl
theorem raw_one {w : World} {K : Nat → Prop} {xs : List Value} {L : List Lw} (h : RawLs w K xs L) {u : Value} (hu : u ∈ xs) : u.oneCell' = true := by
  obtain ⟨q, hq⟩ := List.mem_iff_getElem?.1 hu
  have hl := (List.getElem?_eq_some_iff.1 hq).1
  rw [h.1] at hl
  have hi : q / 19 < L.length := by omega
  obtain ⟨_, o, n, s, A2, m, c, hc, _⟩ := h.2 (q / 19) hi
  obtain ⟨v, hv⟩ : ∃ v, (lwX L[q / 19] o n s A2 m c)[q % 19]? = some v := ⟨_, Array.getElem?_eq_getElem (show q % 19 < (lwX L[q / 19] o n s A2 m c).size by rw [lwX_size]; omega)⟩
  have h2 := hc _ v hv
  rw [show q / 19 * 19 + q % 19 = q by omega, hq] at h2
  obtain rfl := Option.some.inj h2
  exact lwX_one _ _ _ _ _ _ _ hv
def rawOf (w : World) (g off n : Nat) : List Value := (List.range (n * 19)).map fun i => (w.cell? ⟨g, off + i, none⟩).getD undef
theorem raw_of {w : World} {K : Nat → Prop} {g off : Nat} {L : List Lw} (hA : LsAt w K (some ⟨g, off, none⟩) L) : RawLs w K (rawOf w g off L.length) L ∧ ∀ j u, (rawOf w g off L.length)[j]? = some u → w.cell? ⟨g, off + j, none⟩ = some u := by
  have key : ∀ (i : Nat) (hi : i < L.length), okW L[i] ∧ ∃ o n s A2 m c, (∀ (j : Nat) (v : Value), (lwX L[i] o n s A2 m c)[j]? = some v → w.cell? ⟨g, off + i * 19 + j, none⟩ = some v) ∧ ExAt w K L[i].ex (.agg (exC o n s A2 m c)) := fun i hi => by
    obtain ⟨g', off', e', hg, hc⟩ := hA (by rintro rfl; simp at hi)
    simp only [Option.some.injEq, Addr.mk.injEq, and_true] at e'
    obtain ⟨rfl, rfl⟩ := e'
    obtain ⟨hok, e0, e1, e2, e3, h3, h4⟩ := hc i hi
    obtain ⟨o, n, s, A2, m, c, hC⟩ := h4.cells
    obtain ⟨rfl, rfl, rfl, rfl⟩ := agg4 hC
    exact ⟨hok, o, n, s, A2, m, c, h3, h4⟩
  refine ⟨⟨by simp [rawOf], fun i hi => ?_⟩, fun j u hj => ?_⟩
  · obtain ⟨hok, o, n, s, A2, m, c, h3, h4⟩ := key i hi
    refine ⟨hok, o, n, s, A2, m, c, fun j v hv => ?_, h4⟩
    have hj : j < 19 := (Array.getElem?_eq_some_iff.1 hv).1
    rw [rawOf, List.getElem?_map, List.getElem?_range (by omega), Option.map_some, ← Nat.add_assoc, h3 j v hv]
    rfl
  · have hl := (List.getElem?_eq_some_iff.1 hj).1
    have hq : j < L.length * 19 := by simpa [rawOf] using hl
    obtain ⟨_, o, n, s, A2, m, c, h3, _⟩ := key (j / 19) (by omega)
    obtain ⟨v, hv⟩ : ∃ v, (lwX L[j / 19] o n s A2 m c)[j % 19]? = some v := ⟨_, Array.getElem?_eq_getElem (show j % 19 < (lwX L[j / 19] o n s A2 m c).size by rw [lwX_size]; omega)⟩
    have h2 := h3 _ v hv
    rw [show off + j / 19 * 19 + j % 19 = off + j by omega] at h2
    rw [rawOf, List.getElem?_map, List.getElem?_range hq, Option.map_some, h2] at hj
    rw [h2]
    exact hj
theorem raw_keep {w w' : World} {K K' : Nat → Prop} {xs : List Value} {L : List Lw} (h : RawLs w K xs L) (hK : ∀ g, K g → K' g) (hk : ∀ g, K g → w'.heap[g]? = w.heap[g]?) : RawLs w' K' xs L :=
  ⟨h.1, fun i hi => by
    obtain ⟨h1, o, n, s, A2, m, c, h3, h4⟩ := h.2 i hi
    exact ⟨h1, o, n, s, A2, m, c, h3, ExAt.keep hK hk _ _ h4⟩⟩
abbrev lnZ : Array Value := lwX lw0 0 0 [] none 0 0
theorem okW0 : okW lw0 := by
  have z : kHas .i64 0 := by show -2 ^ 63 ≤ (0 : Int) ∧ (0 : Int) < 2 ^ 63; decide
  exact ⟨⟨Nat.zero_le _, Nat.zero_le _⟩, z, z, z, z, z, z, z, z, z, z, z⟩
theorem raw_snoc {w : World} {K : Nat → Prop} {xs : List Value} {L : List Lw} (h : RawLs w K xs L) : RawLs w K (xs ++ lnZ.toList) (L ++ [lw0]) := by
  refine ⟨by simp [h.1]; omega, fun i hi => ?_⟩
  by_cases hl : i < L.length
  · obtain ⟨h1, o, n, s, A2, m, c, h3, h4⟩ := h.2 i hl
    rw [List.getElem_append_left hl]
    refine ⟨h1, o, n, s, A2, m, c, fun j v hv => ?_, h4⟩
    have := h3 j v hv
    rw [List.getElem?_append_left (List.getElem?_eq_some_iff.1 this).1, this]
  · obtain rfl : i = L.length := by simp at hi; omega
    rw [List.getElem_append_right (Nat.le_refl _)]
    simp only [Nat.sub_self, List.getElem_cons_zero]
    refine ⟨okW0, 0, 0, [], none, 0, 0, fun j v hv => ?_, exAt0 _ _⟩
    rw [List.getElem?_append_right (by rw [h.1]; omega), h.1, Nat.add_sub_cancel_left]
    simpa using hv
theorem raw_ls {w : World} {K : Nat → Prop} {base : Nat} {v : Value} {xs : List Value} {L : List Lw} (h : RawLs w K xs L) (ho : w.ownsRow base 49 19 v L.length xs) : ∃ A cap, v = .slice A L.length cap ∧ L.length ≤ cap ∧ LsAt w (fun g => K g ∨ v.ownBlock = some g) A L := by
  rcases ho.2 with ⟨hv, h0⟩ | ⟨g, cap, cur, rfl, hb, hh, hcap, _, hs, ht⟩
  · obtain rfl := List.eq_nil_of_length_eq_zero h0
    exact ⟨none, 0, hv, Nat.le_refl _, fun hn => absurd rfl hn⟩
  · refine ⟨_, cap, rfl, hcap, fun hn => ⟨g, 0, rfl, .inr rfl, fun i hi => ?_⟩⟩
    obtain ⟨h1, o, n, s, A2, m, c, h3, h4⟩ := h.2 i hi
    refine ⟨h1, _, _, _, _, fun j v hv => ?_, ExAt.keep (fun _ h => .inl h) (fun _ _ => rfl) _ _ h4⟩
    have := ho.cells (g := g) rfl _ _ (h3 j v hv)
    rw [addR] at this
    rw [Nat.zero_add, ← this, Nat.zero_add]
end Go.Proofs.YtpdkpkabdkefcaaGreatDoor
namespace Go.Proofs.YtpdkpkabdkefcaaGreatDoor
open Go.Sx Go.ChangeShapes Go.WideShapes Go.RowKit Go.Joins Go.Deep Go.Rp
theorem bodyX_len {y : Lw} (href : y.ref.length ≤ 1000000) (hsz : y.sz < 2 ^ 63) : (bodyX y).length ≤ 4000000 := by
  have h1 : (printX { y with lab := [] }).length ≤ 3000000 := by
    unfold printX
    have h := textX_len (y := { y with lab := [] }) href
    split
    · simp
    · split
      · simp
      · split
        · exact h
        · simp
  have h2 := print_len y.ex
  have h3 := logF_bound 64 y.sz
  have h4 := digsN_len (n := (logF 64 y.sz).toNat) (by omega)
  have h5 := digsN_len (n := y.sz.toNat) (by omega)
  unfold bodyX
  split
  · omega
  split
  · simp only [List.length_append]
    have h6 : (if y.sz = 1 then ([46, 98, 121, 116, 101, 32] : Bs) else if y.sz = 2 then [46, 104, 119, 111, 114, 100, 32] else [46, 119, 111, 114, 100, 32]).length ≤ 7 := by
      split
      · simp
      · split <;> simp
    omega
  split
  · simp only [List.length_append, List.length_cons, List.length_nil]; omega
  split
  · simp
  split
  · simp only [List.length_append, List.length_cons, List.length_nil]; omega
  split
  · simp only [List.length_append, List.length_cons, List.length_nil]; omega
  · simp
section
variable {w : World} {y : Lw} {e0 e1 e2 e3 : Value}
set_option maxHeartbeats 8000000 in
theorem line19 (K : Nat → Prop) (hx : ExAt w K y.ex (.agg #[e0, e1, e2, e3])) (hK : ∀ g, K g → g < w.heap.size) (hnm : y.ex.nms = true) (href : y.ref.length ≤ 1000000) (hlab : y.lab.length ≤ 1000000) (hsz : y.sz < 2 ^ 63) :
    Calls Tryz.prog 21 #[lwV y e0 e1 e2 e3] w fun e w' => e = .returned (.tuple #[.string (tx (lineS y)), .bool (lineOk y)]) ∧ Below w.heap.size w w' := by
  have hR : lineOk y = (((oneX (lineS y)).2 == 0) && (oneX (lineS y)).1.beq y) := rfl
  have hS : lineS y = if y.lab = [] then bodyX y else if bodyX y = [] then y.lab ++ [58] else y.lab ++ [58, 32] ++ bodyX y := rfl
  generalize lineOk y = R at hR
  have hbl := bodyX_len href hsz
  obtain ⟨W, hW⟩ : ∃ W, Hid (W = w.alloc (.cells (lwC y e0 e1 e2 e3) 49)) := ⟨_, Lib.hid rfl⟩
  have b0 : Below w.heap.size w W := by rw [hW.out]; exact (Below.refl _ _).alloc (Nat.le_refl _) _
  have hw0 : W.heap[w.heap.size]? = some (.cells (lwC y e0 e1 e2 e3) 49 (0, 0)) := by rw [hW.out]; exact heap_alloc_new w _
  have hs0 : W.heap.size = w.heap.size + 1 := by rw [hW.out]; simp
  have ht := text19 (w := W) K (hx.below b0 hK) (fun g hg => Nat.lt_of_lt_of_le (hK g hg) b0.size) hnm href hsz
  clear hsz
  generalize bodyX y = B at ht hS hbl
  have key : (y.lab.isEmpty = true ∧ lineS y = B) ∨ (y.lab.isEmpty = false ∧ B.isEmpty = true ∧ lineS y = y.lab ++ [58]) ∨ (y.lab.isEmpty = false ∧ B.isEmpty = false ∧ lineS y = y.lab ++ [58, 32] ++ B) := by
    cases h1 : y.lab.isEmpty
    · have h1' : y.lab ≠ [] := by intro h; rw [h] at h1; exact absurd h1 (by decide)
      rw [if_neg h1'] at hS
      cases h2 : B.isEmpty
      · have h2' : B ≠ [] := by intro h; rw [h] at h2; exact absurd h2 (by decide)
        rw [if_neg h2'] at hS
        exact .inr (.inr ⟨rfl, rfl, hS⟩)
      · have h2' : B = [] := by simpa using h2
        rw [if_pos h2'] at hS
        exact .inr (.inl ⟨rfl, rfl, hS⟩)
    · have h1' : y.lab = [] := by simpa using h1
      rw [if_pos h1'] at hS
      exact .inl ⟨rfl, hS⟩
  clear hS
  generalize lineS y = S at key hR ⊢
  have HR := Lib.hid hR
  have HK := Lib.hid key
  clear hR key
  dsimp only [lwV, lwC] at ht hw0 hW ⊢
  go_enter Tryz.func21, Tryz.ntmps21
  go_wp2_with (first | rw [← hW.out] | (refine wpList_load_blk rfl 49 (.tmp 1) rfl w.heap.size (by rfl) _ hw0 _ Tryz.underlying49 rfl (by kernel_rfl) ?_) | fail)
  ((with_reducible refine ht.mono ?_); rintro e w1 ⟨rfl, hb1⟩)
  have k1 := (hb1.block w.heap.size (by omega)).trans hw0
  have b1 := b0.trans (hb1.mono b0.size)
  have hs1 : w.heap.size < w1.heap.size := by have := hb1.size; omega
  have d0 : w1.cell? ⟨w.heap.size, 0, none⟩ = some (.string (tx y.lab)) := by simp [World.cell?, k1]
  clear hw0 hs0 b0 hb1 ht hW
  rcases HK.out with ⟨q1, hS⟩ | ⟨q1, q2, hS⟩ | ⟨q1, q2, hS⟩
  all_goals
    have hSl : S.length ≤ 1000000000000 := by rw [hS]; first | omega | (simp only [List.length_append, List.length_cons, List.length_nil]; omega)
    have hone := one19 S hSl
    unfold LinePost at hone
    have HS := Lib.hid hS
    clear HK hS
    have HR2 := Lib.hid HR.out
    clear HR
    generalize oneX S = L at hone HR2
    rw [HS.out] at hone
    obtain ⟨z, er⟩ := L
    dsimp only [lwC] at hone
    go_wp2_with (fail)
    (refine (hone _).mono ?_; rintro e w3 ⟨f0, f1, f2, f3, rfl, hz, hb3⟩)
    obtain ⟨zo, zk, zs, zA, zq, zc, hC⟩ := hz.cells
    obtain ⟨rfl, rfl, rfl, rfl⟩ := agg4 hC
    clear hC hone d0
    have k3 := (hb3.block w.heap.size (by omega)).trans k1
    have b3 := b1.trans (hb3.mono b1.size)
    have hx3 := hx.below b3 hK
    have hK3 : ∀ g, K g → g < w3.heap.size := fun g hg => Nat.lt_of_lt_of_le (hK g hg) b3.size
    have hn4 := heap_alloc_new w3 (.cells lwZ 49)
    have hth4 := there_of hn4
    obtain ⟨W4, hW4⟩ : ∃ W4, Hid (W4 = (w3.alloc (.cells lwZ 49)).setCells w3.heap.size 0 (lwC z (.int .i64 zo) (.int .i64 zk) (.string (tx zs)) (.slice zA zq zc)).toList) := ⟨_, Lib.hid rfl⟩
    have b4 : Below w3.heap.size w3 W4 := by rw [hW4.out]; exact below_setCells ((Below.refl _ _).alloc (Nat.le_refl _) _) (Nat.le_refl _) _
    have hz4 : W4.heap[w3.heap.size]? = some (.cells (lwC z (.int .i64 zo) (.int .i64 zk) (.string (tx zs)) (.slice zA zq zc)) 49 (0, 0)) := by rw [hW4.out]; exact setCells_all hn4 (lwC z (.int .i64 zo) (.int .i64 zk) (.string (tx zs)) (.slice zA zq zc)).toList rfl
    have k4 := (b4.block w.heap.size (by have := hb3.size; omega)).trans k3
    have hsm := same18 z y (w := W4) (e0 := .int .i64 zo) (e1 := .int .i64 zk) (e2 := .string (tx zs)) (e3 := .slice zA zq zc) (f0 := e0) (f1 := e1) (f2 := e2) (f3 := e3) (fun q => q < w3.heap.size)
      (ExAt.keep (fun q hq => hq.2) (fun q hq => b4.block q hq.2) _ _ hz) (ExAt.keep hK3 (fun q hq => b4.block q (hK3 q hq)) _ _ hx3) (fun g hg => Nat.lt_of_lt_of_le hg b4.size)
    have b5 := b3.trans (b4.mono b3.size)
    clear b4 k3 hx3 hK3 hb3 hn4
    dsimp only [lwV, lwC] at hsm hz4 k4
    generalize z.beq y = r at hsm HR2
    cases u : (er == 0)
    · have u' : (er != 0) = true := by simpa using ne_of_beq_false u
      have hRv : R = false := by have := HR2.out; rw [this]; show ((er == 0) && r) = false; rw [u]; rfl
      go_wp2_with (first
        | (refine wpList_allocW rfl (.cells lwZ 49) w3.heap.size rfl (alloc_line _ _ _ _ _ _) ?_; refine wpList_store_mid rfl 49 (.tmp 5) (.tmp 25) rfl w3.heap.size 0 (lwC z (.int .i64 zo) (.int .i64 zk) (.string (tx zs)) (.slice zA zq zc)) (by rfl) (by rfl) hth4 (by kernel_rfl) (lwC_one _ _ _ _ _ _ _) ?_; rw [← hW4.out])
        | fail)
      exact bodyPost_ret (results_tmp2 rfl _ _ _) rfl ⟨by rw [hRv, HS.out]; rfl, b5⟩
    · have u' : (er != 0) = false := by simpa using eq_of_beq u
      have hRv : R = r := by have := HR2.out; rw [this]; show ((er == 0) && r) = r; rw [u]; rfl
      go_wp2_with (first
        | (refine wpList_allocW rfl (.cells lwZ 49) w3.heap.size rfl (alloc_line _ _ _ _ _ _) ?_; refine wpList_store_mid rfl 49 (.tmp 5) (.tmp 25) rfl w3.heap.size 0 (lwC z (.int .i64 zo) (.int .i64 zk) (.string (tx zs)) (.slice zA zq zc)) (by rfl) (by rfl) hth4 (by kernel_rfl) (lwC_one _ _ _ _ _ _ _) ?_; rw [← hW4.out])
        | (refine wpList_load_blkG (by rfl) 49 (.tmp 5) rfl w3.heap.size (by rfl) _ hz4 _ Tryz.underlying49 rfl (by kernel_rfl) ?_)
        | (refine wpList_load_blkG (by rfl) 49 (.tmp 1) rfl w.heap.size (by rfl) _ k4 _ Tryz.underlying49 rfl (by kernel_rfl) ?_)
        | fail)
      ((with_reducible refine hsm.mono ?_); rintro e w6 ⟨rfl, hb6⟩)
      go_wp2_with (fail)
      exact bodyPost_ret (results_tmp2 rfl _ _ _) rfl ⟨by rw [hRv, HS.out]; rfl, b5.trans (hb6.mono b5.size)⟩
end
end Go.Proofs.YtpdkpkabdkefcaaGreatDoor
namespace Go.Proofs.YtpdkpkabdkefcaaGreatDoor
open Go.Sx Go.ChangeShapes Go.WideShapes Go.RowKit Go.Joins Go.Deep Go.Rp
set_option maxHeartbeats 8000000 in
theorem few19 (L : List Lw) (hL : L.length ≤ lenMax) (A : Option Addr) (cap : Nat) (w : World) (K : Nat → Prop) (hA : LsAt w K A L) (hK : ∀ g, K g → g < w.heap.size) :
    Calls Tryz.prog 20 #[.slice A L.length cap] w fun e w' => e = .returned (.int .i64 (if fewLs L then 1 else 0)) ∧ Below w.heap.size w w' := by
  have hR : fewLs L = (decide (L.length ≤ 300) && L.all fewW) := rfl
  generalize fewLs L = R at hR
  unfold lenMax at hL
  go_enter Tryz.func20, Tryz.ntmps20
  cases u : decide (300 < (L.length : Int))
  rotate_left
  · have h1 := of_decide_eq_true u
    rw [decide_eq_false (by omega), Bool.false_and] at hR
    subst hR
    go_wp2_with (fail)
    exact bodyPost_ret (results_tmp rfl _ _ _) rfl ⟨rfl, Below.refl _ _⟩
  have h300 := of_decide_eq_false u
  rw [decide_eq_true (by omega), Bool.true_and] at hR
  have HR := Lib.hid hR
  clear hR
  go_wp2_with (fail)
  go_loopw [3] (fun t wr => ∃ i : Nat, t = .int .i64 i ∧ i ≤ L.length ∧ Hid (R = (L.drop i).all fewW) ∧ Below w.heap.size w wr) (fun t _ => L.length - (intOf t).toNat)
  case atStart => exact ⟨0, rfl, Nat.zero_le _, Lib.hid (by rw [List.drop_zero]; exact HR.out), Below.refl _ _⟩
  case round =>
    obtain ⟨i, rfl, hi, he, hb⟩ := hrel
    clear HR u
    by_cases hlt : i < L.length
    · have u0 : decide ((i : Int) < (L.length : Int)) = true := decide_eq_true (by omega)
      obtain ⟨g, off, rfl, hg, hc⟩ := hA (by rintro rfl; simp at hlt)
      obtain ⟨⟨⟨hl1, hl2⟩, _⟩, e0, e1, e2, e3, h3, h4⟩ := hc i hlt
      have hgl := hK g hg
      have cc : ∀ j v, (lwC L[i] e0 e1 e2 e3)[j]? = some v → wr.cell? ⟨g, off + i * 19 + j, none⟩ = some v := fun j v hv => (hb.cell (p := ⟨g, off + i * 19 + j, none⟩) hgl).trans (h3 j v hv)
      have hf : ∀ w', Below w.heap.size w w' → _ := fun w' hb => few17L L[i].ex _ 60 300 w' K (h4.below hb hK) (fun g hg => Nat.lt_of_lt_of_le (hK g hg) hb.size) (by decide) (by decide) (by decide)
      have hd : L.drop i = L[i] :: L.drop (i + 1) := List.drop_eq_getElem_cons hlt
      have hE := he.out
      clear he hc h3
      rw [hd, List.all_cons] at hE
      have hF : fewW L[i] = (!decide (L[i].ex.few 60 300 < 0) && (!decide (300 < L[i].lab.length) && !decide (300 < L[i].ref.length))) := rfl
      generalize fewW L[i] = q at hE hF
      generalize L[i] = y at hl1 hl2 cc hf hF h4
      unfold lenMax at hl1 hl2
      have c0 := cc 0 (.string (tx y.lab)) rfl
      have c12 := cc 12 (.string (tx y.ref)) rfl
      have c15 := cc 15 e0 rfl
      have c16 := cc 16 e1 rfl
      have c17 := cc 17 e2 rfl
      have c18 := cc 18 e3 rfl
      rw [Nat.add_zero] at c0
      clear cc hd h4
      have hfw := hf wr hb
      have HE := Lib.hid hE
      have HF := Lib.hid hF
      clear hE hF hf
      generalize hm : y.ex.few 60 300 = m at hfw HF
      clear hm
      go_wp2_with (fail)
      ((with_reducible refine hfw.mono ?_); rintro e w5 ⟨rfl, hb5⟩)
      have d0 : w5.cell? ⟨g, off + i * 19, none⟩ = some (.string (tx y.lab)) := (hb5.cell (p := ⟨g, off + i * 19, none⟩) (by have := hb.size; show g < _; omega)).trans c0
      have d12 : w5.cell? ⟨g, off + i * 19 + 12, none⟩ = some (.string (tx y.ref)) := (hb5.cell (p := ⟨g, off + i * 19 + 12, none⟩) (by have := hb.size; show g < _; omega)).trans c12
      have hb6 := hb.trans (hb5.mono hb.size)
      clear c0 c12 c15 c16 c17 c18 hfw
      cases v1 : decide (m < 0)
      rotate_left
      · have hE := HE.out
        rw [HF.out, v1] at hE
        have hE2 : R = false := hE
        clear hE HE HF
        subst hE2
        go_wp2_with (fail)
        exact bodyPost_ret (results_tmp rfl _ _ _) rfl ⟨rfl, hb6⟩
      cases v2 : decide (300 < (y.lab.length : Int))
      rotate_left
      · have hE := HE.out
        rw [HF.out, v1, decide_eq_true (show 300 < y.lab.length by have := of_decide_eq_true v2; omega)] at hE
        have hE2 : R = false := hE
        clear hE HE HF
        subst hE2
        go_wp2_with (fail)
        exact bodyPost_ret (results_tmp rfl _ _ _) rfl ⟨rfl, hb6⟩
      cases v3 : decide (300 < (y.ref.length : Int))
      rotate_left
      · have hE := HE.out
        rw [HF.out, v1, decide_eq_false (show ¬ 300 < y.lab.length by have := of_decide_eq_false v2; omega), decide_eq_true (show 300 < y.ref.length by have := of_decide_eq_true v3; omega)] at hE
        have hE2 : R = false := hE
        clear hE HE HF
        subst hE2
        go_wp2_with (fail)
        exact bodyPost_ret (results_tmp rfl _ _ _) rfl ⟨rfl, hb6⟩
      have hE := HE.out
      rw [HF.out, v1, decide_eq_false (show ¬ 300 < y.lab.length by have := of_decide_eq_false v2; omega), decide_eq_false (show ¬ 300 < y.ref.length by have := of_decide_eq_false v3; omega)] at hE
      have hE2 : R = (L.drop (i + 1)).all fewW := hE
      have HE2 := Lib.hid hE2
      clear hE hE2 HE HF
      go_wp2_with (fail)
      go_roundw
      case rel => exact ⟨i + 1, by go_num, by omega, HE2, hb6⟩
      case measure => simp [intOf]; omega
    · obtain rfl : i = L.length := by omega
      have u0 : decide ((L.length : Int) < (L.length : Int)) = false := decide_eq_false (by omega)
      have hE := he.out
      clear he
      rw [List.drop_eq_nil_of_le (Nat.le_refl _)] at hE
      have hE2 : R = true := hE
      clear hE
      subst hE2
      go_wp2_with (fail)
      exact bodyPost_ret (results_tmp rfl _ _ _) rfl ⟨rfl, hb⟩
end Go.Proofs.YtpdkpkabdkefcaaGreatDoor
namespace Go.Proofs.YtpdkpkabdkefcaaGreatDoor
open Go.Sx Go.ChangeShapes Go.WideShapes Go.RowKit Go.Joins Go.Deep Go.Rp
theorem fewLs_mem {L : List Lw} (h : fewLs L = true) : L.length ≤ 300 ∧ ∀ y ∈ L, 0 ≤ y.ex.few 60 300 ∧ y.lab.length ≤ 300 ∧ y.ref.length ≤ 300 := by
  unfold fewLs at h
  rw [Bool.and_eq_true] at h
  refine ⟨of_decide_eq_true h.1, fun y hy => ?_⟩
  have h2 := List.all_eq_true.1 h.2 y hy
  unfold fewW at h2
  simp at h2
  omega
def MayPost (L : List Lw) (w : World) (e : Ending) (w' : World) : Prop :=
  ∃ r : Int, e = .returned (.int .i64 r) ∧ (r = 0 ∨ r = 1 ∧ L.length ≤ 60 ∧ fewLs L = true ∧ ∀ y ∈ L, lineOk y = true) ∧ Below w.heap.size w w'
set_option maxHeartbeats 8000000 in
theorem may23 (L : List Lw) (hL : L.length ≤ lenMax) (A : Option Addr) (cap : Nat) (w : World) (K : Nat → Prop) (hA : LsAt w K A L) (hK : ∀ g, K g → g < w.heap.size) :
    Calls Tryz.prog 6 #[.slice A L.length cap] w (MayPost L w) := by
  have hf := few19 L hL A cap w K hA hK
  unfold lenMax at hL
  go_enter Tryz.func6, Tryz.ntmps6
  go_wp2_with (fail)
  ((with_reducible refine hf.mono ?_); rintro e w1 ⟨rfl, hb1⟩)
  clear hf
  cases hfw : fewLs L
  · go_wp2_with (fail)
    exact bodyPost_ret (results_tmp rfl _ _ _) rfl ⟨0, rfl, .inl rfl, hb1⟩
  obtain ⟨_, hmem⟩ := fewLs_mem hfw
  cases u : decide (60 < (L.length : Int))
  rotate_left
  · go_wp2_with (fail)
    exact bodyPost_ret (results_tmp rfl _ _ _) rfl ⟨0, rfl, .inl rfl, hb1⟩
  have h60 := of_decide_eq_false u
  have HF := Lib.hid hfw
  have HM := Lib.hid hmem
  have hA1 := hA.below hK hb1
  have hK1 : ∀ g, K g → g < w1.heap.size := fun g hg => Nat.lt_of_lt_of_le (hK g hg) hb1.size
  clear hfw hmem hA hK
  go_wp2_with (fail)
  go_loopw [3, 4] (fun q t wr => ∃ (i : Nat) (n : Int), t = .int .i64 i ∧ q = .int .i64 n ∧ i ≤ L.length ∧ Hid (∀ y ∈ L.take i, lineOk y = true) ∧ Below w1.heap.size w1 wr) (fun _ t _ => L.length - (intOf t).toNat)
  case atStart => exact ⟨0, 0, rfl, rfl, Nat.zero_le _, Lib.hid (by simp), Below.refl _ _⟩
  case round =>
    obtain ⟨i, n, rfl, rfl, hi, he, hb⟩ := hrel
    clear u
    by_cases hlt : i < L.length
    · have u0 : decide ((i : Int) < (L.length : Int)) = true := decide_eq_true (by omega)
      obtain ⟨g, off, rfl, hg, hc⟩ := hA1 (by rintro rfl; simp at hlt)
      obtain ⟨⟨_, _, _, _, _, _, _, _, _, _, _, hsz⟩, e0, e1, e2, e3, h3, h4⟩ := hc i hlt
      have hgl := hK1 g hg
      have cc : ∀ j v, (lwC L[i] e0 e1 e2 e3)[j]? = some v → wr.cell? ⟨g, off + i * 19 + j, none⟩ = some v := fun j v hv => (hb.cell (p := ⟨g, off + i * 19 + j, none⟩) hgl).trans (h3 j v hv)
      have h4w := h4.below hb hK1
      obtain ⟨m1, m2, m3⟩ := HM.out L[i] (List.getElem_mem hlt)
      have hnm := (few_nms L[i].ex 60 300 (by decide) m1).1
      have hl := line19 (w := wr) K h4w (fun g hg => Nat.lt_of_lt_of_le (hK1 g hg) hb.size) hnm (by omega) (by omega) (by have h : -2 ^ 63 ≤ L[i].sz ∧ L[i].sz < 2 ^ 63 := hsz; exact h.2)
      have ht : L.take (i + 1) = L.take i ++ [L[i]] := by rw [List.take_add_one, List.getElem?_eq_getElem hlt]; rfl
      have hrow : wr.rangeAt g (off + i * 19) (lwC L[i] e0 e1 e2 e3).toList := fun j v hv => cc j v (by simpa using hv)
      have c14 := cc 14 (.int .i64 L[i].sz) rfl
      generalize L[i] = y at hl ht hrow c14
      clear cc hc h3 h4 h4w m1 m2 m3 hnm hsz
      have hlk : lineOk y = true ∨ lineOk y = false := by cases lineOk y <;> simp
      generalize hbo : lineOk y = bo at hl hlk
      dsimp only [lwV, lwC] at hl hrow
      have HO := Lib.hid hbo
      have HT := Lib.hid ht
      clear hbo ht hlk
      go_wp2_with (first | (refine wpList_load_row rfl 49 (.tmp 24) rfl g (off + i * 19) (by rfl) _ hrow _ Tryz.underlying49 rfl (by kernel_rfl) ?_) | fail)
      ((with_reducible refine hl.mono ?_); rintro e w5 ⟨rfl, hb5⟩)
      have d14 : w5.cell? ⟨g, off + i * 19 + 14, none⟩ = some (.int .i64 y.sz) := (hb5.cell (p := ⟨g, off + i * 19 + 14, none⟩) (by have := hb.size; show g < _; omega)).trans c14
      have hb6 := hb.trans (hb5.mono hb.size)
      clear hl hrow c14
      cases bo
      · go_wp2_with (fail)
        exact bodyPost_ret (results_tmp rfl _ _ _) rfl ⟨0, rfl, .inl rfl, hb1.trans (hb6.mono hb1.size)⟩
      · go_wp2_with (fail)
        go_roundw
        case rel =>
          refine ⟨i + 1, _, by go_num, rfl, by omega, Lib.hid fun z hz => ?_, hb6⟩
          rw [HT.out, List.mem_append] at hz
          rcases hz with hz | hz
          · exact he.out z hz
          · rw [List.mem_singleton.1 hz]; exact HO.out
        case measure => simp [intOf]; omega
    · obtain rfl : i = L.length := by omega
      have u0 : decide ((L.length : Int) < (L.length : Int)) = false := decide_eq_false (by omega)
      rw [List.take_length] at he
      cases v : decide (3145728 < n)
      · go_wp2_with (fail)
        exact bodyPost_ret (results_tmp rfl _ _ _) rfl ⟨1, rfl, .inr ⟨rfl, by omega, HF.out, he.out⟩, hb1.trans (hb.mono hb1.size)⟩
      · go_wp2_with (fail)
        exact bodyPost_ret (results_tmp rfl _ _ _) rfl ⟨0, rfl, .inl rfl, hb1.trans (hb.mono hb1.size)⟩
end Go.Proofs.YtpdkpkabdkefcaaGreatDoor
