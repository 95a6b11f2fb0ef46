/- For the seat: texts joined: KerS. -/
import Derived.Test.YtiicniiecomhjaaDoorJKerA
import Derived.Lib.Strings
import Derived.WalkLawsBesides
/- For the seat: a place that an item stands at; bytes of 0; nothing asked. -/
namespace Go.Proofs.YtiicniiecomhjaaDoor
open Go.Sx Go.ChangeShapes Go.WideShapes Go.RowKit Go.Joins Go.Deep

set_option maxRecDepth 100000 in
theorem stands1_any (y : Itm) (b : Nat) (p : Int) (w : World) (hb : b < w.heap.size) (hc : w.cell? ⟨b, 0, none⟩ = some (.int .i64 p)) :
    Calls Tryd.prog 25 #[y.val, .pointer (some ⟨b, 0, none⟩)] w fun e w' => e = .returned (.bool (y.a == p)) ∧ Below w.heap.size w w' := by
  obtain ⟨k, a, s, f, l, x, V, vc, vs⟩ := y
  obtain ⟨x0, x1, x2, x3, x4, x5, x6, x7, xb⟩ := x
  have hne : ¬ w.heap.size = b := by omega
  go_enter Tryd.func25, Tryd.ntmps25
  go_wp2
  exact bodyPost_ret (results_tmp rfl _ _ _) rfl ⟨rfl, (Below.refl _ _).alloc (Nat.le_refl _) _⟩

theorem any_take {l : List Itm} {p : Int} {i : Nat} (h : ∀ j y, j < i → l[j]? = some y → (y.a == p) = false) (hi : l.length ≤ i) : l.any (fun y => y.a == p) = false := by
  rw [List.any_eq_false]
  intro y hy
  obtain ⟨j, hj, rfl⟩ := List.getElem_of_mem hy
  have := h j l[j] (by omega) (List.getElem?_eq_getElem hj)
  simpa using this

set_option maxRecDepth 100000 in
set_option maxHeartbeats 1000000 in
theorem indexFunc_any (l : List Itm) (A : Option Addr) (cap : Nat) (b : Nat) (p : Int) (w : World) (hA : ItAt w w.heap.size A l) (hl : l.length ≤ maxLen) (hb : b < w.heap.size) (hc : w.cell? ⟨b, 0, none⟩ = some (.int .i64 p)) :
    Calls Tryd.prog 31 #[.slice A l.length cap, .func (.func 25) #[] #[.pointer (some ⟨b, 0, none⟩)]] w
      fun e w' => ∃ r : Int, e = .returned (.int .i64 r) ∧ decide (0 ≤ r) = (l.any fun y => y.a == p) ∧ Below w.heap.size w w' := by
  unfold maxLen at hl
  go_enter Tryd.func31, Tryd.ntmps31
  go_wp2
  go_loopw [8] (fun k wr => ∃ i : Nat, i ≤ l.length ∧ k = .int .i64 i ∧ (∀ j y, j < i → l[j]? = some y → (y.a == p) = false) ∧ Below w.heap.size w wr) (fun k _ => l.length - (intOf k).toNat)
  case atStart => exact ⟨0, by omega, rfl, fun j y hj => by omega, Below.refl _ _⟩
  case round =>
    obtain ⟨i, hi, rfl, hp, hbr⟩ := hrel
    by_cases hlt : i < l.length
    · obtain ⟨g, off, rfl, hg, hc'⟩ := (hA.below hbr (Nat.le_refl _)).at_ hlt
      have hk0 : (0 : Int) ≤ (i : Int) := by omega
      have hkl : (i : Int) < (l.length : Int) := by omega
      have IN := itIn_of hc'
      have hcl := stands1_any l[i] b p wr (Nat.lt_of_lt_of_le hb hbr.size) ((hbr.cell (p := ⟨b, 0, none⟩) hb).trans hc)
      have hyes : (l[i].a == p) = true → (l.any fun y => y.a == p) = true := fun h => List.any_eq_true.2 ⟨l[i], List.getElem_mem hlt, h⟩
      have hno : (l[i].a == p) = false → ∀ j y, j < i + 1 → l[j]? = some y → (y.a == p) = false := fun h j y hj hy => by
        by_cases e : j = i
        · subst e; rw [List.getElem?_eq_getElem hlt] at hy; cases hy; exact h
        · exact hp j y (by omega) hy
      clear hc'
      generalize l[i] = y at hcl IN hyes hno
      have HY := Lib.hid hyes
      have HN := Lib.hid hno
      clear hyes hno hp
      obtain ⟨k, a, s, f, ln, x, V, vc, vs⟩ := y
      obtain ⟨x0, x1, x2, x3, x4, x5, x6, x7, xb⟩ := x
      obtain ⟨p0, p1, p2, p3, p4, p5, p6, p7, p8, p9, p10, p11, p12, p13, p14⟩ := IN
      dsimp only [Itm.val, Itm.cells] at hcl p0 p1 p2 p3 p4 p5 p6 p7 p8 p9 p10 p11 p12 p13 p14
      go_wp2_with fail
      ((with_reducible refine hcl.mono ?_); rintro e w1 ⟨rfl, hb1⟩)
      have hb2 := hbr.trans (hb1.mono hbr.size)
      cases hq : (a == p)
      · have hn := HN.out hq
        go_wp2_with fail
        go_roundw
        case rel => exact ⟨i + 1, by omega, by go_num, hn, hb2⟩
        case measure => simp [intOf]; omega
      · have hn := HY.out hq
        go_wp2_with fail
        exact bodyPost_ret (results_tmp rfl _ _ _) rfl ⟨i, rfl, by rw [hn]; exact decide_eq_true hk0, hb2⟩
    · have e : i = l.length := by omega
      subst e
      have hn := any_take hp (Nat.le_refl _)
      go_wp2
      exact bodyPost_ret (results_tmp rfl _ _ _) rfl ⟨-1, rfl, by rw [hn]; rfl, hbr⟩

set_option maxRecDepth 100000 in
theorem contains_any (l : List Itm) (A : Option Addr) (cap : Nat) (b : Nat) (p : Int) (w : World) (hA : ItAt w w.heap.size A l) (hl : l.length ≤ maxLen) (hb : b < w.heap.size) (hc : w.cell? ⟨b, 0, none⟩ = some (.int .i64 p)) :
    Calls Tryd.prog 24 #[.slice A l.length cap, .func (.func 25) #[] #[.pointer (some ⟨b, 0, none⟩)]] w
      fun e w' => e = .returned (.bool (l.any fun y => y.a == p)) ∧ Below w.heap.size w w' := by
  have hI := indexFunc_any l A cap b p w hA hl hb hc
  go_enter Tryd.func24, Tryd.ntmps24
  go_wp2_with fail
  ((with_reducible refine hI.mono ?_); rintro e w1 ⟨r, rfl, hr, hb1⟩)
  go_wp2_with fail
  exact bodyPost_ret (results_tmp rfl _ _ _) rfl ⟨by rw [← hr]; rfl, hb1⟩

theorem cell_alloc1 (w : World) (v : Value) (t : TypeId) (b : Nat) (hb : b = w.heap.size) : (w.alloc (.cells #[v] t)).cell? ⟨b, 0, none⟩ = some v := by
  subst hb
  have h : (w.alloc (.cells #[v] t)).heap[w.heap.size]? = some (.cells #[v] t (0, 0)) := heap_alloc_new w _
  simp only [World.cell?, h]; rfl
theorem cell_allocN (w : World) (cs : Array Value) (t : TypeId) (j : Nat) : (w.alloc (.cells cs t)).cell? ⟨w.heap.size, j, none⟩ = cs[j]? := by
  have h : (w.alloc (.cells cs t)).heap[w.heap.size]? = some (.cells cs t (0, 0)) := heap_alloc_new w _
  simp only [World.cell?, h]
  rfl

/-- An image that is looked at. -/
abbrev imgV (s : ByteArray) (A : Option Addr) (n cap : Nat) (y : Itm) (p : ByteArray) (it : Int) : Value :=
  .agg #[.string s, .slice A n cap, .int .i64 y.k, .int .i64 y.a, .int .i64 y.s, .int .i64 y.f, .int .i64 y.l, .int .i64 y.x.x0, .int .i64 y.x.x1, .int .i64 y.x.x2, .int .i64 y.x.x3, .int .i64 y.x.x4, .int .i64 y.x.x5, .int .i64 y.x.x6, .int .i64 y.x.x7, .bool y.x.b, .slice y.V y.vs.length y.vc, .string p, .int .i64 it]

set_option maxRecDepth 100000 in
set_option maxHeartbeats 1000000 in
theorem stands_any (s : ByteArray) (l : List Itm) (A : Option Addr) (cap : Nat) (y : Itm) (p : ByteArray) (it q : Int) (w : World) (hA : ItAt w w.heap.size A l) (hl : l.length ≤ maxLen) :
    Calls Tryd.prog 18 #[imgV s A l.length cap y p it, .int .i64 q] w fun e w' => e = .returned (.bool (standsB s.size l q)) ∧ Below w.heap.size w w' := by
  obtain ⟨k, a, sz, f, ln, x, V, vc, vs⟩ := y
  obtain ⟨x0, x1, x2, x3, x4, x5, x6, x7, xb⟩ := x
  unfold standsB
  by_cases h : q = (s.size : Int)
  · subst h
    go_enter Tryd.func18, Tryd.ntmps18
    go_wp2
    exact bodyPost_ret (results_tmp rfl _ _ _) rfl ⟨by simp, ((Below.refl _ _).alloc (Nat.le_refl _) _).alloc (by simp) _⟩
  · have e : (q == (s.size : Int)) = false := by simpa using h
    have b0 : ∀ o1 o2, Below w.heap.size w ((w.alloc o1).alloc o2) := fun o1 o2 => ((Below.refl _ _).alloc (Nat.le_refl _) o1).alloc (by simp) o2
    have hC : ∀ o1 o2 (b : Nat), b < ((w.alloc o1).alloc o2).heap.size → ((w.alloc o1).alloc o2).cell? ⟨b, 0, none⟩ = some (.int .i64 q) → _ := fun o1 o2 b hb hc => contains_any l A cap b q ((w.alloc o1).alloc o2) ((hA.below (b0 o1 o2) (Nat.le_refl _)).more (b0 o1 o2).size) hl hb hc
    go_enter Tryd.func18, Tryd.ntmps18
    go_wp2_with fail
    ((refine (hC _ _ _ (by simp) (cell_alloc1 _ _ _ _ (by simp))).mono ?_); rintro e w1 ⟨rfl, hb1⟩)
    have hb2 := (b0 _ _).trans (hb1.mono (b0 _ _).size)
    go_wp2_with fail
    exact bodyPost_ret (results_tmp rfl _ _ _) rfl ⟨by rw [e]; rfl, hb2⟩

theorem anyi_any (s : ByteArray) (A : Option Addr) (n cap : Nat) (y : Itm) (p : ByteArray) (it : Int) (w : World) :
    Calls Tryd.prog 10 #[imgV s A n cap y p it] w fun e w' => e = .returned (.bool true) ∧ Below w.heap.size w w' := by
  go_enter Tryd.func10, Tryd.ntmps10
  go_wp2
  exact bodyPost_ret (results_tmp rfl _ _ _) rfl ⟨rfl, (Below.refl _ _).alloc (Nat.le_refl _) _⟩

set_option maxRecDepth 100000 in
set_option maxHeartbeats 1000000 in
theorem pad_any (s : ByteArray) (A : Option Addr) (n cap : Nat) (y : Itm) (p : ByteArray) (it : Int) (w : World) (hp : p.size ≤ maxLen) :
    Calls Tryd.prog 13 #[imgV s A n cap y p it] w fun e w' => e = .returned (.bool (p.data.toList.all (· == 0))) ∧ Below w.heap.size w w' := by
  unfold maxLen at hp
  obtain ⟨k, a, sz, f, ln, x, V, vc, vs⟩ := y
  obtain ⟨x0, x1, x2, x3, x4, x5, x6, x7, xb⟩ := x
  dsimp only [imgV]
  have b0 := (Below.refl w.heap.size w).alloc (Nat.le_refl _) (.cells #[.string s, .slice A n cap, .int .i64 k, .int .i64 a, .int .i64 sz, .int .i64 f, .int .i64 ln, .int .i64 x0, .int .i64 x1, .int .i64 x2, .int .i64 x3, .int .i64 x4, .int .i64 x5, .int .i64 x6, .int .i64 x7, .bool xb, .slice V vs.length vc, .string p, .int .i64 it] 35)
  have c17 := cell_allocN w #[.string s, .slice A n cap, .int .i64 k, .int .i64 a, .int .i64 sz, .int .i64 f, .int .i64 ln, .int .i64 x0, .int .i64 x1, .int .i64 x2, .int .i64 x3, .int .i64 x4, .int .i64 x5, .int .i64 x6, .int .i64 x7, .bool xb, .slice V vs.length vc, .string p, .int .i64 it] 35 17
  have hsz : (w.alloc (.cells #[.string s, .slice A n cap, .int .i64 k, .int .i64 a, .int .i64 sz, .int .i64 f, .int .i64 ln, .int .i64 x0, .int .i64 x1, .int .i64 x2, .int .i64 x3, .int .i64 x4, .int .i64 x5, .int .i64 x6, .int .i64 x7, .bool xb, .slice V vs.length vc, .string p, .int .i64 it] 35)).heap.size = w.heap.size + 1 := by simp
  change _ = some (Value.string p) at c17
  generalize hW : w.alloc (.cells #[.string s, .slice A n cap, .int .i64 k, .int .i64 a, .int .i64 sz, .int .i64 f, .int .i64 ln, .int .i64 x0, .int .i64 x1, .int .i64 x2, .int .i64 x3, .int .i64 x4, .int .i64 x5, .int .i64 x6, .int .i64 x7, .bool xb, .slice V vs.length vc, .string p, .int .i64 it] 35) = W0 at b0 c17 hsz
  go_enter Tryd.func13, Tryd.ntmps13
  go_wp2
  go_loopw [7] (fun c wr => ∃ i : Nat, i ≤ p.size ∧ c = .int .i64 i ∧ (∀ (j : Nat) (hj : j < p.size), j < i → p[j] = 0) ∧ Below W0.heap.size W0 wr) (fun c _ => p.size - (intOf c).toNat)
  case atStart => exact ⟨0, by omega, rfl, fun j _ hj => by omega, Below.refl _ _⟩
  case round =>
    obtain ⟨i, hi, rfl, hq, hbr⟩ := hrel
    have c1 : wr.cell? ⟨w.heap.size, 17, none⟩ = some (.string p) := (hbr.cell (p := ⟨w.heap.size, 17, none⟩) (by show w.heap.size < W0.heap.size; omega)).trans c17
    have hbw : Below w.heap.size w wr := b0.trans (hbr.mono (by omega))
    by_cases hlt : i < p.size
    · have hk0 : (0 : Int) ≤ (i : Int) := by omega
      have hkl : (i : Int) < (p.size : Int) := by omega
      by_cases he : p[i] = 0
      · have h' : ∀ (j : Nat) (hj : j < p.size), j < i + 1 → p[j] = 0 := fun j hj hji => by
          by_cases e : j = i
          · subst e; exact he
          · exact hq j hj (by omega)
        have e0 : (((p[i]).toNat : Int) != 0) = false := by rw [he]; rfl
        go_wp2
        go_roundw
        case rel => exact ⟨i + 1, by omega, by go_num, h', hbr⟩
        case measure => simp [intOf]; omega
      · have e0 : (((p[i]).toNat : Int) != 0) = true := by
          rw [bne_iff_ne]
          intro h
          exact he (UInt8.toNat_inj.1 (by simpa using h))
        have hr : (p.data.toList.all (· == 0)) = false := by
          rw [List.all_eq_false]
          exact ⟨p[i], by
            show p.data[i] ∈ p.data.toList
            exact Array.getElem_mem_toList _, by simpa using he⟩
        go_wp2
        exact bodyPost_ret (results_tmp rfl _ _ _) rfl ⟨by rw [hr]; rfl, hbw⟩
    · have e : i = p.size := by omega
      subst e
      have hr : (p.data.toList.all (· == 0)) = true := by
        rw [List.all_eq_true]
        intro x hx
        obtain ⟨j, hj, rfl⟩ := List.getElem_of_mem hx
        have := hq j hj hj
        rw [Array.getElem_toList]
        show (p[j] == 0) = true
        rw [this]; rfl
      go_wp2
      exact bodyPost_ret (results_tmp rfl _ _ _) rfl ⟨by rw [hr]; rfl, hbw⟩
#print axioms pad_any
end Go.Proofs.YtiicniiecomhjaaDoor
