/- Memory's 'Cells': all bytes, by rising addresses. -/
import Derived.Test.YtcccfckefjjoiaaMemNew
import Derived.Test.YtcccfckefjjoiaaSort
import Derived.Maps.Ext
namespace Go.Proofs.Ytcccfckefjjoiaa
open Go.RowKit Go.Mem Go.Maps Go.Sort Go.Shelf

/-- What has been met of the cells while the map is ranged over. -/
structure Coll (c : Cells) (left : Lit → Bool) (l : Cells) : Prop where
  mem : ∀ p ∈ l, p ∈ c ∧ left (kl p.1) = false
  nd : (l.map Prod.fst).Nodup
  all : ∀ p ∈ c, left (kl p.1) = false → p ∈ l

theorem Coll.start {D : DataW Unit} {c : Cells} (h : MapIs D c) : Coll c (Maps.has D) [] where
  mem p hp := by cases hp
  nd := by simp
  all p hp hl := by
    have hr := h.inr p hp
    rw [h.has_ p.1 hr.1 hr.2.1] at hl
    have hz := h.canon.nz p hp
    rw [getL_ne h.canon hp] at hl
    simp at hl
    exact absurd hl hz

theorem Coll.step {D : DataW Unit} {c l : Cells} {left : Lit → Bool} (h : MapIs D c) (hc : Coll c left l) {x y v : Int} {k : Lit} {ps : List MemPlace} {e : DataW Unit} (hk : keyOf Try.prog 53 (pv x y) = some k) (hl : left k = true)
    (hv : elemR (.int .u8 v) = some (e, ps)) (hat : ∀ zd, D.atKey k zd = e) :
    ∃ a, 0 ≤ a ∧ a < 4294967296 ∧ x = a / 4 ∧ y = a % 4 ∧ 0 ≤ v ∧ v < 256 ∧ Coll c (fun z => left z && !z.sameKey k) (l ++ [(a, v)]) := by
  obtain ⟨a, a0, a1, rfl⟩ := h.keys k (has_true_of_atKey hat)
  have e1 := placeLaw.inj hk (keyOf_at a0 a1)
  simp [pv, av] at e1
  obtain ⟨q, hq, he, hw⟩ := plainElem_int_inv Try.underlying5 hv
  injection hq with _ hq
  subst hq
  simp only [Prod.mk.injEq] at he
  have ev := (hat (.lit (.int .u8 0))).symm.trans (h.val a a0 a1)
  rw [he.1] at ev
  injection ev with ev
  injection ev with _ ev
  have hne : getL c a ≠ 0 := by
    have := h.has_ a a0 a1
    rw [has_true_of_atKey hat] at this
    simpa using this.symm
  have hm : (a, v) ∈ c := by rw [ev]; exact getL_mem hne
  have hr := h.inr _ hm
  refine ⟨a, a0, a1, e1.1, e1.2, hr.2.2.1, hr.2.2.2, ⟨?_, ?_, ?_⟩⟩
  · intro p hp
    rcases List.mem_append.1 hp with hp | hp
    · exact ⟨(hc.mem p hp).1, by simp [(hc.mem p hp).2]⟩
    · simp at hp
      subst hp
      exact ⟨hm, by simp [WideAt.sameKey_self (kl_key a0 a1)]⟩
  · rw [List.map_append, List.nodup_append]
    refine ⟨hc.nd, by simp, ?_⟩
    intro u hu w hw2 huw
    simp at hw2
    subst hw2
    subst huw
    obtain ⟨p, hp, rfl⟩ := List.mem_map.1 hu
    rw [(hc.mem p hp).2] at hl
    cases hl
  · intro p hp hlp
    cases hlk : left (kl p.1) with
    | false => exact List.mem_append_left _ (hc.all p hp hlk)
    | true =>
      simp only [hlk, Bool.true_and, Bool.not_eq_false'] at hlp
      have hrp := h.inr p hp
      have e2 : p.1 = a := kl_inj hrp.1 hrp.2.1 a0 a1 (WideAt.sameKey_eq hlp)
      have e3 : p = (a, v) := by
        have := getL_ne h.canon hp
        rw [e2, ← ev] at this
        rw [← e2, this]
      rw [e3]
      simp

theorem Coll.finish {c l : Cells} {left : Lit → Bool} (hn : Canon c) (hc : Coll c left l) (hl : ∀ k, left k = false) : l.Perm c := by
  have h1 : l.Nodup := by
    have := hc.nd
    rw [List.nodup_iff_pairwise_ne] at *
    rw [List.pairwise_map] at this
    exact this.imp (fun h e => h (by rw [e]))
  have h2 : c.Nodup := by
    rw [List.nodup_iff_pairwise_ne]
    exact hn.up.imp (fun h e => by rw [e] at h; omega)
  rw [List.perm_ext_iff_of_nodup h1 h2]
  intro p
  exact ⟨fun hp => (hc.mem p hp).1, fun hp => hc.all p hp (hl _)⟩

/-- A cell's two values. -/
def encP (x : Int × Int) : List Value := [.int .u32 x.1, .int .u8 x.2]
/-- How the sort compares. -/
def cmpF (x y : Int × Int) : Int := if x.1 < y.1 then -1 else 1

theorem ltP (x y : Int × Int) : ltOf cmpF x y = decide (x.1 < y.1) := by
  unfold ltOf cmpF
  by_cases h1 : x.1 < y.1 <;> simp [h1]
theorem swoP : SWO (ltOf cmpF) where
  irrefl x := by rw [ltP]; simp
  trans x y z h1 h2 := by rw [ltP] at *; simp at *; omega
  ntrans x y z h1 h2 := by rw [ltP] at *; simp at *; omega

set_option maxHeartbeats 1000000 in
theorem cmp_any (x y : Int × Int) (W : World) : Calls Try.prog 25 #[.agg #[.int .u32 x.1, .int .u8 x.2], .agg #[.int .u32 y.1, .int .u8 y.2]] W fun e w' => e = .returned (.int .i64 (cmpF x y)) ∧ ∃ q os', w' = grow (W.drewN q) os' := by
  unfold cmpF
  by_cases h : x.1 < y.1
  · rw [if_pos h]
    go_enter Try.func25, Try.ntmps25
    go_wp2
    go_ret
    exact ⟨rfl, 0, _, by rw [alloc_eq_grow, alloc_eq_grow, grow_grow]; rfl⟩
  · rw [if_neg h]
    go_enter Try.func25, Try.ntmps25
    go_wp2
    go_ret
    exact ⟨rfl, 0, _, by rw [alloc_eq_grow, alloc_eq_grow, grow_grow]; rfl⟩

theorem holdsP {w : World} {base g cap : Nat} {c : Cells} {e : TypeId} (h : w.ownsRow base e 2 (.slice (some ⟨g, 0, none⟩) c.length cap) c.length (encC c)) : HoldsK encP 2 w g 0 c.toArray := by
  intro j hj
  have hj2 : j < c.length * 2 := by simpa using hj
  have hi : j / 2 < c.length := by omega
  rw [get_flatK _ _ _ _ (by simpa using hj2)]
  refine ⟨?_, ?_⟩
  · have hat := encC_at c (j / 2) _ (List.getElem?_eq_getElem hi)
    rw [Nat.zero_add, h.cellAt j hj2]
    have hx : (c.toArray)[j / 2]! = c[j / 2] := by simp [hi]
    rw [hx]
    rcases Nat.mod_two_eq_zero_or_one j with hm | hm
    · have : j = j / 2 * 2 := by omega
      rw [hm]
      conv => lhs; rw [this]
      exact hat.1
    · have : j = j / 2 * 2 + 1 := by omega
      rw [hm]
      conv => lhs; rw [this]
      exact hat.2
  · rw [Nat.zero_add]
    exact h.frozenAt j

theorem below_sorted {B : Nat} (w : World) (g n : Nat) (d : Array (Int × Int)) (os : Array Obj) (hB : B ≤ g) (hs : B ≤ w.heap.size) : Below B w (sortWorldK encP 2 w g 0 n d os) := by
  refine ⟨rfl, rfl, rfl, size_sortWorldK_c _ _ _ _ _ _ _ _, fun k hk => ?_⟩
  show (w.heap.modify g _ ++ os)[k]? = w.heap[k]?
  rw [Array.getElem?_append_left (by simp; omega), Array.getElem?_modify, if_neg (by omega)]

theorem eq_of_sorted {c : Cells} (hn : Canon c) {d d' : Array (Int × Int)} (hp : d.toList.Perm c) (h1 : PermIn 0 d.size d d') (h2 : SortedIn (ltOf cmpF) 0 d.size d') : d'.toList = c := by
  have hsz := h1.1
  have e1 : (d'.extract 0 d.size).toList = d'.toList := by simp [← hsz]
  have e2 : (d.extract 0 d.size).toList = d.toList := by simp
  have hp' : d'.toList.Perm c := by
    have := h1.2.2
    rw [e1, e2] at this
    exact this.trans hp
  have hnd : d'.toList.Nodup := hp'.nodup_iff.2 (by
    rw [List.nodup_iff_pairwise_ne]
    exact hn.up.imp (fun h e => by rw [e] at h; omega))
  have inj : ∀ p ∈ c, ∀ q ∈ c, p.1 = q.1 → p = q := by
    intro p hp q hq e
    have k1 := getL_ne hn hp
    have k2 := getL_ne hn hq
    rw [e, k2] at k1
    exact Prod.ext e k1.symm
  refine canon_ext ⟨?_, fun p hp => hn.nz p (hp'.mem_iff.1 hp)⟩ hn (fun p => hp'.mem_iff)
  rw [List.pairwise_iff_getElem]
  intro i j hi hj hij
  have hi' : i < d'.size := by simpa using hi
  have hj' : j < d'.size := by simpa using hj
  have := h2 i j (Nat.zero_le _) hij (by omega)
  rw [ltP, getElem!_pos d' i hi', getElem!_pos d' j hj'] at this
  simp at this
  have hne : d'[i].1 ≠ d'[j].1 := by
    intro e
    have m1 : d'[i] ∈ c := hp'.mem_iff.1 (by simp)
    have m2 : d'[j] ∈ c := hp'.mem_iff.1 (by simp)
    have e3 := inj _ m1 _ m2 e
    have := (List.nodup_iff_pairwise_ne.1 hnd)
    rw [List.pairwise_iff_getElem] at this
    exact this i j hi hj hij (by simpa using e3)
  simp only [Array.getElem_toList]
  omega

theorem cells_nil (w : World) : Calls Try.prog 17 #[.pointer none] w fun e w' => e = .returned (.slice none 0 0) ∧ w = w' := by
  go_enter Try.func17, Try.ntmps17
  go_wp2
  go_ret
  exact ⟨rfl, rfl⟩

theorem or_place (a : Int) (h0 : 0 ≤ a) (h1 : a < 4294967296) : bits .or .u32 (a / 4 * 4 % 4294967296) (a % 4) = a := by
  have e : a / 4 * 4 % 4294967296 = a / 4 * 4 := by omega
  rw [e, u32_or _ _ (by omega) (by omega) (by omega) (by omega)]
  obtain ⟨n, rfl⟩ := Int.eq_ofNat_of_zero_le h0
  have e1 : ((n : Int) / 4 * 4).toNat = 2 ^ 2 * (n / 4) := by omega
  have e2 : ((n : Int) % 4).toNat = n % 4 := by omega
  rw [e1, e2, ← Nat.two_pow_add_eq_or_of_lt (by omega : n % 4 < 2 ^ 2)]
  omega

set_option maxHeartbeats 2000000 in
theorem sort_any (w : World) (base : Nat) (v : Value) (c l : Cells) (hn : Canon c) (hp : l.Perm c) (hown : w.ownsRow base 42 2 v l.length (encC l)) (hb : base ≤ w.heap.size) (hl : l.length ≤ 4294967296) :
    Calls Try.prog 24 #[v, .func (.func 25) #[] #[]] w fun e w' => e = .returned (.tuple #[]) ∧ (∃ A cap, v = .slice A c.length cap ∧ ClAt w' w'.heap.size A c) ∧ Below base w w' := by
  have hlen := hp.length_eq
  rcases hown.2 with ⟨hv, h0⟩ | ⟨g, cap, cur, rfl, hg, hh, _⟩
  · subst hv
    have hc0 : c = [] := List.eq_nil_of_length_eq_zero (by omega)
    subst hc0
    refine (AnyF.slices_SortFunc_none (P := Try.prog) (ρ := Try.sortL_ren) { Try.sortL with } none 0 (.func (.func 25) #[] #[]) w).mono ?_
    rintro e w' ⟨rfl, rfl⟩
    exact ⟨rfl, ⟨none, 0, rfl, ClAt.nil _ _ _⟩, Below.refl _ _⟩
  · have hgl : g < w.heap.size := (Array.getElem?_eq_some_iff.1 hh).1
    have hH := holdsP hown
    have eg : ∀ args w, (callFunc 25 args).run Try.prog w = .ok (.enter 25 args) w := enters_of Try.func25 (by kernel_rfl) rfl
    have hcon := AnyQ.slices_SortFunc Try.sortL 2 Try.isAgg42 Try.sizeOf42 encP (fun _ => rfl) (fun x v hv => by simp [encP] at hv; rcases hv with rfl | rfl <;> rfl) cmpF swoP 25 #[] g 0 cap l.toArray w eg (fun _ _ _ _ x y => cmp_any x y _) hH hgl (by simp; omega)
    have e1 : l.toArray.size = l.length := by simp
    rw [e1] at hcon
    refine hcon.mono ?_
    rintro e w' ⟨rfl, d', n, os, h1, h2, rfl⟩
    have hd := eq_of_sorted hn (d := l.toArray) (by simpa using hp) (by rw [e1]; exact h1) (by rw [e1]; exact h2)
    have hs : d'.size = l.toArray.size := h1.1
    have hK := holdsK_sortWorldK_c encP 2 w g 0 l.toArray d' n os hH hgl hs
    refine ⟨rfl, ⟨some ⟨g, 0, none⟩, cap, by rw [hlen], ?_⟩, below_sorted w g n d' os hg hb⟩
    intro _
    refine ⟨g, 0, rfl, Nat.lt_of_lt_of_le hgl (size_sortWorldK_c _ _ _ _ _ _ _ _), fun i p hip => ?_⟩
    rw [← hd] at hip
    have hi : i < d'.size := by
      have := (List.getElem?_eq_some_iff.1 hip).1
      simpa using this
    have hx : d'[i]! = p := by
      rw [getElem!_pos d' i hi]
      have := (List.getElem?_eq_some_iff.1 hip).2
      simpa using this
    have k1 := (hK.cell hi (c := 0) (by omega)).1
    have k2 := (hK.cell hi (c := 1) (by omega)).1
    rw [hx] at k1 k2
    exact ⟨k1, k2⟩

theorem ranges_below {P : Program} {k : TypeId} {R : Value → Option (DataW Unit × List MemPlace)} {w w' : World} {b r n : Nat} {D : DataW Unit} {left : Lit → Bool} {cnt B : Nat} (h : w.ranges P k R b r n D left cnt) (hb : RowKit.Below B w w') (h1 : b < B) (h2 : r < B) : w'.ranges P k R b r n D left cnt := by
  obtain ⟨es, clock, since, seen, c0, e1, e2, e3, e4, e5, e6⟩ := h
  exact ⟨es, clock, since, seen, c0, (hb.block b h1).trans e1, e2, e3, e4, (hb.block r h2).trans e5, e6⟩

set_option maxHeartbeats 4000000 in
theorem cells_any (w : World) (b bm : Nat) (c : Cells) (hm : MemAt w b bm c) :
    Calls Try.prog 17 #[.pointer (some ⟨b, 0, none⟩)] w (RetCells w c) := by
  have hlt := hm.lt
  have hle := length_le hm.is.1 hm.is.2
  have hn := hm.is.1
  obtain ⟨hc, D, ho, hd⟩ := hm
  have hsz := hd.size_
  go_enter Try.func17, Try.ntmps17
  go_wp2_with (at_range; refine wpList_range_own _ rfl _ 46 rfl 53 5 placeLaw Try.underlying46 elemR bm c.length D rfl ho ?_; intro w0 hrg0 hg0 hs0)
  go_frame
  go_loopw [3] (fun v wr => ∃ (left : Lit → Bool) (cnt : Nat) (l : Cells), wr.ranges Try.prog 53 elemR bm w.heap.size c.length D left cnt ∧ wr.ownsRow (w.heap.size + 1) 42 2 v l.length (encC l) ∧ Coll c left l ∧ l.length + cnt ≤ c.length ∧ Below w.heap.size w wr ∧ w.heap.size + 1 ≤ wr.heap.size) (fun _ wr => wr.rangeLeft bm w.heap.size)
  case atStart => exact ⟨_, _, [], hrg0, World.ownsRow_nil _ _ _ _, Coll.start hd, by simp [hsz], (Below.refl _ _).grown hg0 (Nat.le_refl _) (fun j hj => by cases hj), by omega⟩
  case round =>
    obtain ⟨left, cnt, l, hrg, hown, hco, hln, hbr, hws⟩ := hrel
    go_wp2_with (first
      | (at_next; refine wpList_next_ranges _ rfl _ rfl 53 placeLaw elemR (fun p : Int × Int => pv p.1 p.2) (Value.int .u8) (fun key kl hk => place_inv hk) (fun v y hv => by obtain ⟨q, rfl, _⟩ := plainElem_int_inv Try.underlying5 hv; exact ⟨q, rfl⟩) bm w.heap.size c.length _ _ _ rfl hrg ?_ ?_)
      | go_in)
    · intro _ hl0
      have hperm := hco.finish hn hl0
      have hs := sort_any wr (w.heap.size + 1) u3 c l hn hperm hown hws (by omega)
      go_wp2_with (go_at_call 24; refine hs.mono ?_; rintro e w' ⟨rfl, hA, hb2⟩)
      obtain ⟨A, cap, rfl, hA⟩ := hA
      go_ret
      exact ⟨A, cap, rfl, hA, hbr.trans (hb2.mono (by omega))⟩
    · intro x y v k yd yp w2 cnt2 hkey hlk hv hat hrg2 hlt2 hg2 hs2 hen
      obtain ⟨a, a0, a1, hx, hy, v0, v1, hco2⟩ := hco.step hd hkey hlk hv hat
      have hor := or_place a a0 a1
      rw [← hx, ← hy] at hor
      have hown2 := hown.kept hg2 (Or.inr (fun e => by have := (hown.lt _ e).1; omega))
      have hw2 : w.heap.size + 1 ≤ w2.heap.size := by omega
      clear hs2 hx hy hat hv hkey hlk
      simp only [pv] at hen
      go_wp2_with (at_builtin; refine app_cell (w2.alloc _) rfl _ _ rfl (w.heap.size + 1) (by simp; omega) l a v (by omega) _ rfl ?_ _ rfl (by simp) ?_; exact hown2.alloc _; intro v3 w3 hown3 hb3)
      have hrg3 := ranges_below (hrg2.alloc (.cells #[.int .u32 x, .int .u32 y] 53)) hb3 (by omega) (Nat.lt_succ_self _)
      go_roundw
      case rel => exact ⟨_, cnt2, l ++ [(a, v)], hrg3, hown3, hco2, by simp; omega, ((hbr.grown hg2 (by omega) (fun j hj => by cases hj; exact Nat.le_refl _)).alloc (by omega) _).trans (hb3.mono (by omega)), Nat.le_trans (by simp; omega) hb3.size⟩
      case measure => rw [hrg3.left_eq, hrg.left_eq]; exact hlt2

end Go.Proofs.Ytcccfckefjjoiaa
