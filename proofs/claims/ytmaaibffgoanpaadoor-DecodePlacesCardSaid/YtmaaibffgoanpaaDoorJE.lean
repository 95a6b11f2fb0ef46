/- For the seat: texts joined: Awk, PlcDef, Plc, Post, Args. -/
import Derived.Test.YtmaaibffgoanpaaDoorJD
import Derived.Test.YtmaaibffgoanpaaDoorJB
import Derived.Test.YtmaaibffgoanpaaDoorJA
import Derived.Test.YtmaaibffgoanpaaDoorTie
import Derived.Test.YtmaaibffgoanpaaDoorCards
import Derived.Carry
import Derived.ProofKit
import Derived.OpenShut
import Derived.Deep.Slices
import Derived.ChangeVars
import Derived.JoinedOf
import Derived.SevenTiedAt
/- For the seat: chapter 12's example holds. -/
namespace Go.Proofs.YtmaaibffgoanpaaDoor
open Go.Sx Go.ChangeShapes Go.WideShapes Go.RowKit Go.Joins Go.Deep

theorem stream_calls (l : List Int) (A : Option Addr) (cap : Nat) (w : World) (hA : IAt w w.heap.size A l) (hl : ∀ a ∈ l, kHas .i64 a) (hlen : l.length ≤ 4000000000) (hcap : l.length ≤ cap) (hw : Laid w) :
    Calls Tryd.prog 5 #[.slice A l.length cap] w fun e w' => ∃ v1 v2, e = .returned (.tuple #[v1, v2]) ∧ StR w.heap.size (strmA l 0 0) v1 v2 w' ∧ Below w.heap.size w w' :=
  callsIn_wide.1 (stream_in l A cap w hA hl hlen hcap hw (by obtain ⟨t, fz, h⟩ := hw; exact (Array.getElem?_eq_some_iff.1 h).1))

theorem encF_get : ∀ (l : List (Nat × Fields)) (i : Nat) (x : Fields), (l.map Prod.snd)[i]? = some x → ∀ (j : Nat) (v : Value), x.cells[j]? = some v → (encF l)[i * 9 + j]? = some v
  | [], i, x, h, _, _, _ => by simp at h
  | y :: l, 0, x, h, j, v, hv => by
    simp at h
    subst h
    have hj : j < 9 := by have := (Array.getElem?_eq_some_iff.1 hv).1; simpa using this
    rw [show encF (y :: l) = y.2.cells.toList ++ encF l from by simp [encF], List.getElem?_append_left (by simpa using hj), Nat.zero_mul, Nat.zero_add]
    simpa using hv
  | y :: l, i + 1, x, h, j, v, hv => by
    have h' : (l.map Prod.snd)[i]? = some x := by simpa using h
    rw [show encF (y :: l) = y.2.cells.toList ++ encF l from by simp [encF], List.getElem?_append_right (by simp; omega)]
    rw [show (i + 1) * 9 + j - y.2.cells.toList.length = i * 9 + j from by simp; omega]
    exact encF_get l i x h' j v hv

/-- The rows that Stream gives, as such. -/
theorem str_rows {n₀ : Nat} {l : List (Nat × Fields)} {v1 v2 : Value} {W : World} (h : StR n₀ l v1 v2 W) : ∃ A B ca cb, v1 = .slice A l.length ca ∧ v2 = .slice B l.length cb ∧ FAt W W.heap.size A (l.map Prod.snd) ∧ IAt W W.heap.size B (l.map fun x => (x.1 : Int)) ∧ l.length ≤ ca ∧ l.length ≤ cb := by
  have z : ∀ (g n : Nat), (⟨g, 0, none⟩ : Addr).add n = ⟨g, n, none⟩ := fun g n => by unfold Addr.add; split <;> simp_all
  have r1 := h.r1
  have r2 := h.r2
  by_cases hl : l = []
  · subst hl
    obtain rfl := h.e1.2 rfl
    obtain rfl := h.e2.2 rfl
    exact ⟨none, none, 0, 0, rfl, rfl, fun hn => absurd rfl hn, fun hn => absurd rfl hn, by simp, by simp⟩
  · have k1 := fun e => hl (h.e1.1 e)
    have k2 := fun e => hl (h.e2.1 e)
    rcases r1.2 with ⟨e, _⟩ | ⟨g, ca, cur, rfl, _, hh, hc, _⟩
    · exact absurd e k1
    rcases r2.2 with ⟨e, _⟩ | ⟨g', cb, cur', rfl, _, hh', hc', _⟩
    · exact absurd e k2
    refine ⟨_, _, ca, cb, rfl, rfl, fun _ => ⟨g, 0, rfl, (Array.getElem?_eq_some_iff.1 hh).1, fun i x hx j v hv => ?_⟩, fun _ => ⟨g', 0, rfl, (Array.getElem?_eq_some_iff.1 hh').1, fun i a ha => ?_⟩, hc, hc'⟩
    · have := r1.cells (g := g) rfl (i * 9 + j) v (encF_get l i x hx j v hv)
      rw [z] at this
      rw [Nat.zero_add]
      exact this
    · have := r2.cells (g := g') rfl i (.int .i64 a) (by simpa [encP] using ha)
      rw [z] at this
      rw [Nat.zero_add]
      exact this

theorem laid_pos {w : World} (hw : Laid w) : 0 < w.heap.size := by obtain ⟨t, fz, h⟩ := hw; exact (Array.getElem?_eq_some_iff.1 h).1

theorem lit_call4 (W : World) (b : Nat) (hb : b = W.heap.size) (hw : Laid W) : Calls Tryd.prog 6 #[.slice (some ⟨b, 0, none⟩) 1 1, .bool false] (W.alloc (.cells #[.int .i64 61519] 3)) fun e w' => RetD zeroF 0 2 e (W.alloc (.cells #[.int .i64 61519] 3)) w' := by
  subst hb
  have := dec_any [61519] _ 1 false _ (iat_new W 3 [61519]) (fun a ha => by simp only [List.mem_cons, List.not_mem_nil, or_false] at ha; subst ha; exact has_lit 61519 (by decide)) (by decide) (laid_below hw ((Below.refl _ _).alloc (Nat.le_refl _) _))
  rw [lit_dec4] at this
  exact this
theorem lit_call5 (W : World) (b : Nat) (hb : b = W.heap.size) (hw : Laid W) : Calls Tryd.prog 6 #[.slice (some ⟨b, 0, none⟩) 1 1, .bool false] (W.alloc (.cells #[.int .i64 56832] 3)) fun e w' => RetD zeroF 0 10 e (W.alloc (.cells #[.int .i64 56832] 3)) w' := by
  subst hb
  have := dec_any [56832] _ 1 false _ (iat_new W 3 [56832]) (fun a ha => by simp only [List.mem_cons, List.not_mem_nil, or_false] at ha; subst ha; exact has_lit 56832 (by decide)) (by decide) (laid_below hw ((Below.refl _ _).alloc (Nat.le_refl _) _))
  rw [lit_dec5] at this
  exact this
theorem lit_call6 (W : World) (b : Nat) (hb : b = W.heap.size) (hw : Laid W) : Calls Tryd.prog 6 #[.slice (some ⟨b, 0, none⟩) 2 2, .bool false] (W.alloc (.cells #[.int .i64 61519, .int .i64 1] 3)) fun e w' => RetD ⟨10, 0, 0, 0, 0, 1, 1, 0, false⟩ 2 0 e (W.alloc (.cells #[.int .i64 61519, .int .i64 1] 3)) w' := by
  subst hb
  have := dec_any [61519, 1] _ 2 false _ (iat_new W 3 [61519, 1]) (fun a ha => by
    simp only [List.mem_cons, List.not_mem_nil, or_false] at ha
    rcases ha with rfl | rfl
    · exact has_lit 61519 (by decide)
    · exact has_lit 1 (by decide)) (by decide) (laid_below hw ((Below.refl _ _).alloc (Nat.le_refl _) _))
  rw [lit_dec6] at this
  exact this
theorem lit_ints (W : World) (b : Nat) (A : Option Addr) (ca : Nat) (hb : b = W.heap.size) (hA : IAt W W.heap.size A [0, 1]) (hc : 2 ≤ ca) : Calls Tryd.prog 8 #[.slice A 2 ca, .slice (some ⟨b, 0, none⟩) 2 2] (W.alloc (.cells #[.int .i64 0, .int .i64 1] 3)) fun e w' => e = .returned (.bool true) ∧ Below (W.heap.size + 1) (W.alloc (.cells #[.int .i64 0, .int .i64 1] 3)) w' := by
  subst hb
  have := ints_r [0, 1] [0, 1] A (some ⟨W.heap.size, 0, none⟩) ca 2 (W.alloc (.cells #[.int .i64 0, .int .i64 1] 3)) ((hA.below ((Below.refl _ _).alloc (Nat.le_refl _) _) (Nat.le_refl _)).more (by simp)) (iat_new W 3 [0, 1]) (by decide) hc (by decide) (by decide)
  refine this.mono ?_
  rintro e w' ⟨rfl, h⟩
  exact ⟨by simp, by simpa using h⟩
/-- An instruction's store into a block that was not there. -/
theorem below9 {n : Nat} {w W : World} (h : Below n w W) {b : Nat} (hb : n ≤ b) (v0 v1 v2 v3 v4 v5 v6 v7 v8 : Value) : Below n w (((((((((W.setCell ⟨b, 0, none⟩ v0).setCell ⟨b, 1, none⟩ v1).setCell ⟨b, 2, none⟩ v2).setCell ⟨b, 3, none⟩ v3).setCell ⟨b, 4, none⟩ v4).setCell ⟨b, 5, none⟩ v5).setCell ⟨b, 6, none⟩ v6).setCell ⟨b, 7, none⟩ v7).setCell ⟨b, 8, none⟩ v8) :=
  (((((((((h).setCell (p := ⟨b, 0, none⟩) hb _).setCell (p := ⟨b, 1, none⟩) hb _).setCell (p := ⟨b, 2, none⟩) hb _).setCell (p := ⟨b, 3, none⟩) hb _).setCell (p := ⟨b, 4, none⟩) hb _).setCell (p := ⟨b, 5, none⟩) hb _).setCell (p := ⟨b, 6, none⟩) hb _).setCell (p := ⟨b, 7, none⟩) hb _).setCell (p := ⟨b, 8, none⟩) hb _

set_option maxRecDepth 100000 in
set_option maxHeartbeats 4000000 in
theorem awake_ok (w : World) (hw : Laid w) : Calls Tryd.prog 4 #[] w fun e w' => e = .returned (.bool true) ∧ Below w.heap.size w w' := by
  have b0 : Below w.heap.size w (w.alloc (.cells #[.int .i64 48904, .int .i64 8193, .int .i64 65535] 3)) := (Below.refl _ _).alloc (Nat.le_refl _) _
  have hA0 : IAt (w.alloc (.cells #[.int .i64 48904, .int .i64 8193, .int .i64 65535] 3)) (w.alloc (.cells #[.int .i64 48904, .int .i64 8193, .int .i64 65535] 3)).heap.size (some ⟨w.heap.size, 0, none⟩) [48904, 8193, 65535] := iat_new w _ [48904, 8193, 65535]
  have hS := stream_calls [48904, 8193, 65535] _ 3 _ hA0 (by
    intro a ha
    simp only [List.mem_cons, List.not_mem_nil, or_false] at ha
    rcases ha with rfl | rfl | rfl
    · exact has_lit 48904 (by decide)
    · exact has_lit 8193 (by decide)
    · exact has_lit 65535 (by decide)) (by decide) (by decide) (laid_below hw b0)
  rw [lit_stream] at hS
  change Calls _ _ #[.slice (some ⟨w.heap.size, 0, none⟩) 3 3] _ _ at hS
  clear hA0
  go_enter Tryd.func4, Tryd.ntmps4
  go_wp2_with fail
  ((with_reducible refine hS.mono ?_); rintro e w1 ⟨v1, v2, rfl, hR, hb1⟩)
  obtain ⟨A, B, ca, cb, rfl, rfl, hF, hI, hca, hcb⟩ := str_rows hR
  have c1 : Below w.heap.size w w1 := b0.trans (hb1.mono (by simp))
  have hw1 := laid_below hw c1
  clear hS hR hb1 b0
  go_wp2_with fail
  ((with_reducible refine (dec_nil none 0 false w1).mono ?_); rintro e w2 ⟨rfl, hb2⟩)
  dsimp only [Fields.val]
  have c2 : Below w1.heap.size w1 w2 := hb2
  have d2 := c2.alloc c2.size (.cells #[.int .i64 0, .int .i64 0, .int .i64 0, .int .i64 0, .int .i64 0, .int .i64 0, .int .i64 0, .int .i64 0, .bool false] 28)
  go_wp2_with fail
  ((refine (lit_call4 _ _ (by simp) (laid_below hw1 d2)).mono ?_); rintro e w3 ⟨rfl, hb3⟩)
  have c3 : Below w1.heap.size w1 w3 := (d2.alloc d2.size _).trans (hb3.mono (d2.alloc d2.size _).size)
  have d3 := c3.alloc c3.size (.cells #[.int .i64 0, .int .i64 0, .int .i64 0, .int .i64 0, .int .i64 0, .int .i64 0, .int .i64 0, .int .i64 0, .bool false] 28)
  clear hb3 hb2 d2 c2
  dsimp only [Fields.val]
  go_wp2_with fail
  ((refine (lit_call5 _ _ (by simp) (laid_below hw1 d3)).mono ?_); rintro e w4 ⟨rfl, hb4⟩)
  have c4 : Below w1.heap.size w1 w4 := (d3.alloc d3.size _).trans (hb4.mono (d3.alloc d3.size _).size)
  have d4 := c4.alloc c4.size (.cells #[.int .i64 0, .int .i64 0, .int .i64 0, .int .i64 0, .int .i64 0, .int .i64 0, .int .i64 0, .int .i64 0, .bool false] 28)
  clear hb4 d3 c3
  dsimp only [Fields.val]
  go_wp2_with fail
  ((refine (lit_call6 _ _ (by simp) (laid_below hw1 d4)).mono ?_); rintro e w5 ⟨rfl, hb5⟩)
  have c5 : Below w1.heap.size w1 w5 := (d4.alloc d4.size _).trans (hb5.mono (d4.alloc d4.size _).size)
  have i5 := InsAt.new w5 ⟨10, 0, 0, 0, 0, 1, 1, 0, false⟩ 28
  have d5 := c5.alloc c5.size (.cells #[.int .i64 10, .int .i64 0, .int .i64 0, .int .i64 0, .int .i64 0, .int .i64 1, .int .i64 1, .int .i64 0, .bool false] 28)
  clear hb5 d4 c4
  dsimp only [Fields.val]
  obtain ⟨g, off, hA', hg, hf⟩ := (hF.below d5 (Nat.le_refl _)) (by simp)
  subst hA'
  obtain ⟨g', off', hB', hg', hi⟩ := (hI.below d5 (Nat.le_refl _)) (by simp)
  subst hB'
  have f0 := hf 0 _ rfl 0 _ rfl
  have e0 := hf 1 _ rfl 0 _ rfl
  have e1 := hf 1 _ rfl 1 _ rfl
  have e2 := hf 1 _ rfl 2 _ rfl
  have e3 := hf 1 _ rfl 3 _ rfl
  have e4 := hf 1 _ rfl 4 _ rfl
  have e5 := hf 1 _ rfl 5 _ rfl
  have e6 := hf 1 _ rfl 6 _ rfl
  have e7 := hf 1 _ rfl 7 _ rfl
  have e8 := hf 1 _ rfl 8 _ rfl
  simp only [Nat.zero_mul, Nat.add_zero, Nat.one_mul] at f0 e0 e1 e2 e3 e4 e5 e6 e7 e8
  clear hf
  go_wp2_with fail
  ((refine (lit_ints _ _ _ _ (by simp) ((hI.below d5 (Nat.le_refl _)).more d5.size) hcb).mono ?_); rintro e w6 ⟨rfl, hb6⟩)
  have d6 := d5.alloc d5.size (.cells #[.int .i64 0, .int .i64 1] 3)
  have c6 : Below w1.heap.size w1 w6 := d6.trans (hb6.mono (by have := d5.size; simp at this ⊢; omega))
  obtain ⟨⟨p0, _⟩, _⟩ := (i5.below ((Below.refl _ _).alloc (Nat.le_refl _) (.cells #[.int .i64 0, .int .i64 1] 3)) (by simp)).below hb6 (by simp; omega)
  simp only at p0
  clear i5 f0 e0 e1 e2 e3 e4 e5 e6 e7 e8 hi hI hF
  go_wp2_with fail
  exact bodyPost_ret (results_tmp rfl _ _ _) rfl ⟨rfl, c1.trans (c6.mono c1.size)⟩
#print axioms awake_ok
end Go.Proofs.YtmaaibffgoanpaaDoor
/- For the seat: a stream, place by place: the plain law. -/
namespace Go.Proofs.YtmaaibffgoanpaaDoor
open Go.Sx Go.ChangeShapes Go.WideShapes Go.RowKit Go.Joins Go.Deep

/-- What a stream begins with is there; where there is nothing, nothing is read. -/
theorem strmA_some {l : List Int} {k : Nat} {it : Int} {y : Nat × Fields} {r : List (Nat × Fields)} (h : strmA l k it = y :: r) :
    k < l.length ∧ (decOf (l.drop k) (itB it)).2.2 = 0 ∧ y = (k, (decOf (l.drop k) (itB it)).1) ∧ ∃ n : Nat, (decOf (l.drop k) (itB it)).2.1 = n ∧ 1 ≤ n ∧ k + n ≤ l.length ∧ r = strmA l (k + n) (aftI it (decOf (l.drop k) (itB it)).1) := by
  by_cases hc : k < l.length ∧ (decOf (l.drop k) (itB it)).2.2 = 0
  · obtain ⟨n, hn, h1, h2, _⟩ := decOf_num hc.2
    rw [List.length_drop] at h2
    rw [strmA_go hc.1 hc.2 hn, List.cons.injEq] at h
    exact ⟨hc.1, hc.2, h.1.symm, n, hn, h1, by omega, h.2.symm⟩
  · rw [strmA_stop hc] at h
    cases h
theorem strmA_none {l : List Int} {k : Nat} {it : Int} (hk : k ≤ l.length) (h : strmA l k it = []) : (decOf (l.drop k) (itB it)).2.2 ≠ 0 := by
  by_cases hc : k < l.length
  · intro he
    obtain ⟨n, hn, _⟩ := decOf_num he
    rw [strmA_go hc he hn] at h
    cases h
  · have : l.drop k = [] := List.drop_eq_nil_iff.2 (by omega)
    rw [this]
    exact fun h => absurd (show (2 : Int) = 0 from h) (by decide)
end Go.Proofs.YtmaaibffgoanpaaDoor
/- For the seat: the law's function: each instruction of a stream stands where the one ahead ends, and is read there by itself. -/
namespace Go.Proofs.YtmaaibffgoanpaaDoor
open Go.Sx Go.ChangeShapes Go.WideShapes Go.RowKit Go.Joins Go.Deep
attribute [local go_sem ↓] ins_equal ins_guard

set_option maxRecDepth 100000 in
set_option maxHeartbeats 1000000 in
theorem plc_r (l : List Int) (A : Option Addr) (cap : Nat) (w : World) (hA : IAt w w.heap.size A l) (hl : ∀ a ∈ l, kHas .i64 a) (hlen : l.length ≤ maxLen) (hcap : l.length ≤ cap) (hnil : A = none → cap = 0) (hw : Laid w) :
    Calls Tryd.prog 3 #[.slice A l.length cap] w fun e w' => e = .returned (.bool true) ∧ Below w.heap.size w w' := by
  have hmax := hlen
  unfold maxLen at hlen
  go_enter Tryd.func3, Tryd.ntmps3
  by_cases hbig : 2000 < l.length
  · have hb : (2000 : Int) < (l.length : Int) := by omega
    have hAw := awake_ok w hw
    go_wp2_with fail
    ((with_reducible refine hAw.mono ?_); rintro e w5 ⟨rfl, hb5⟩)
    go_wp2_with fail
    exact bodyPost_ret (results_tmp rfl _ _ _) rfl ⟨rfl, hb5⟩
  · have hb : ¬ (2000 : Int) < (l.length : Int) := by omega
    have hb' : (l.length : Int) ≤ 2000 := by omega
    have hS := stream_calls l A cap w hA hl (by omega) hcap hw
    obtain ⟨st, hst⟩ : ∃ st, strmA l 0 0 = st := ⟨_, rfl⟩
    have hsl : st.length ≤ 2000 := by
      have := strm_len l l.length 0 0
      rw [← hst]
      unfold strmA
      omega
    rw [hst] at hS
    have HST := Lib.hid hst
    clear hst
    go_wp2_with fail
    ((with_reducible refine hS.mono ?_); rintro e w1 ⟨v1, v2, rfl, hR, hb1⟩)
    obtain ⟨C, D, cc, cd, rfl, rfl, hF, hI, hcc, hcd⟩ := str_rows hR
    have z1 := hb1.size
    clear hS hR
    go_wp2_with fail
    go_loopw [5, 6, 7] (fun it nx i wr => ∃ (pre rest : List (Nat × Fields)) (k : Nat) (s : Int), it = .int .i64 s ∧ nx = .int .i64 k ∧ i = .int .i64 pre.length ∧ Hid (st = pre ++ rest ∧ strmA l k s = rest ∧ kHas .i64 s) ∧ k ≤ l.length ∧ Below w1.heap.size w1 wr) (fun _ _ i _ => st.length - (intOf i).toNat)
    case atStart => exact ⟨[], st, 0, 0, rfl, rfl, rfl, Lib.hid ⟨rfl, HST.out, zero_has⟩, Nat.zero_le _, Below.refl _ _⟩
    case round =>
      obtain ⟨pre, rest, k, s, rfl, rfl, rfl, HI, hk, hbr⟩ := hrel
      have b1r := hb1.trans (hbr.mono z1)
      have hlr := laid_below hw b1r
      have hAr := hA.below b1r (Nat.le_refl _)
      have hk0 : (0 : Int) ≤ (k : Int) := by omega
      have hkc : (k : Int) ≤ (cap : Int) := by omega
      have hkl : (k : Int) ≤ (l.length : Int) := by omega
      cases rest with
      | nil =>
        have hlp : st.length = pre.length := by rw [HI.out.1, List.append_nil]
        have hno := strmA_none hk HI.out.2.1
        have hlr2 := hlr
        have finish : ∀ (x : Fields) (w2 : World), Below wr.heap.size wr w2 → Laid (w2.alloc (.cells x.cells 28)) ∧ Below w.heap.size w (w2.alloc (.cells x.cells 28)) := fun x w2 h2 => by
          have c2 := b1r.trans (h2.mono b1r.size)
          exact ⟨laid_below hw (c2.alloc c2.size _), c2.alloc c2.size _⟩
        by_cases hkl' : k < l.length
        · obtain ⟨g, off, rfl, hg, _⟩ := hA.at_ hkl'
          have hne : ¬ cap = k := by omega
          have hD := dec_any (l.drop k) (some ⟨g, off + k, none⟩) (cap - k) (itB s) wr ((hAr.drop k).more b1r.size) (fun a ha => hl a (List.mem_of_mem_drop ha)) (by rw [List.length_drop]; omega) hlr
          rw [List.length_drop] at hD
          generalize decOf (l.drop k) (itB s) = d at hD hno
          obtain ⟨x, n, e⟩ := d
          unfold itB at hD
          have he1 : (e != 0) = true := by simpa using hno
          have hmin : (if (k : Int) ≤ (l.length : Int) then (k : Int) else (l.length : Int)) = (k : Int) := if_pos hkl
          clear hA hAr HI HST hF hI
          obtain ⟨x0, x1, x2, x3, x4, x5, x6, x7, xb⟩ := x
          dsimp only at hD he1 hno
          go_wp2_with fail
          ((with_reducible refine hD.mono ?_); rintro e' w2 ⟨rfl, hb2⟩)
          obtain ⟨hl2, hb3⟩ := finish ⟨x0, x1, x2, x3, x4, x5, x6, x7, xb⟩ w2 hb2
          have hAw := awake_ok _ hl2
          dsimp only [Fields.val]
          clear hD finish
          go_wp2_with fail
          ((with_reducible refine hAw.mono ?_); rintro e' w4 ⟨rfl, hb4⟩)
          go_wp2_with fail
          exact bodyPost_ret (results_tmp rfl _ _ _) rfl ⟨rfl, hb3.trans (hb4.mono hb3.size)⟩
        · obtain rfl : k = l.length := by omega
          have hmin : (if (l.length : Int) ≤ (l.length : Int) then (l.length : Int) else (l.length : Int)) = (l.length : Int) := if_pos (Int.le_refl _)
          have hD : ∀ (A : Option Addr) (cp : Nat), Calls Tryd.prog 6 #[.slice A 0 cp, .bool (bits BinOp.and IntKind.i64 s 15 != 0)] wr fun e w' => RetD zeroF 0 2 e wr w' := fun A cp => dec_nil A cp _ wr
          clear hA hAr HI HST hF hI hno
          have fin : ∀ (w2 : World), Below wr.heap.size wr w2 → Calls Tryd.prog 4 #[] (w2.alloc (.cells (Fields.cells zeroF) 28)) (fun e w' => e = .returned (.bool true) ∧ Below w.heap.size w w') := fun w2 h2 => by
            obtain ⟨hl2, hb3⟩ := finish zeroF w2 h2
            refine (awake_ok _ hl2).mono ?_
            rintro e w' ⟨rfl, h⟩
            exact ⟨rfl, hb3.trans (h.mono hb3.size)⟩
          clear finish
          rcases A with _ | ⟨g, off, sp⟩
          · obtain rfl := hnil rfl
            obtain rfl : l = [] := List.eq_nil_of_length_eq_zero (by omega)
            simp only [List.length_nil] at *
            go_wp2_with fail
            ((with_reducible refine (hD _ _).mono ?_); rintro e' w2 ⟨rfl, hb2⟩)
            have hAw := fin w2 hb2
            dsimp only [Fields.val]
            clear hD fin
            go_wp2_with fail
            ((with_reducible refine hAw.mono ?_); rintro e' w4 ⟨rfl, hb4⟩)
            go_wp2_with fail
            exact bodyPost_ret (results_tmp rfl _ _ _) rfl ⟨rfl, hb4⟩
          · by_cases hne : cap = l.length
            · subst hne
              go_wp2_with fail
              ((with_reducible refine (hD _ _).mono ?_); rintro e' w2 ⟨rfl, hb2⟩)
              have hAw := fin w2 hb2
              dsimp only [Fields.val]
              clear hD fin
              go_wp2_with fail
              ((with_reducible refine hAw.mono ?_); rintro e' w4 ⟨rfl, hb4⟩)
              go_wp2_with fail
              exact bodyPost_ret (results_tmp rfl _ _ _) rfl ⟨rfl, hb4⟩
            · have hne' : ¬ cap = l.length := hne
              go_wp2_with fail
              ((with_reducible refine (hD _ _).mono ?_); rintro e' w2 ⟨rfl, hb2⟩)
              have hAw := fin w2 hb2
              dsimp only [Fields.val]
              clear hD fin
              go_wp2_with fail
              ((with_reducible refine hAw.mono ?_); rintro e' w4 ⟨rfl, hb4⟩)
              go_wp2_with fail
              exact bodyPost_ret (results_tmp rfl _ _ _) rfl ⟨rfl, hb4⟩
      | cons y r =>
        obtain ⟨hkl', he, hy, n, hn, hn1, hn2, hr⟩ := strmA_some HI.out.2.1
        have hi : pre.length < st.length := by rw [HI.out.1, List.length_append, List.length_cons]; omega
        obtain ⟨g, off, rfl, hg, _⟩ := hA.at_ hkl'
        have hne : ¬ cap = k := by omega
        have hklt : (k : Int) < (l.length : Int) := by omega
        have hip : (0 : Int) ≤ (pre.length : Int) := by omega
        have hil : (pre.length : Int) < (st.length : Int) := by omega
        have hD := dec_any (l.drop k) (some ⟨g, off + k, none⟩) (cap - k) (itB s) wr ((hAr.drop k).more b1r.size) (fun a ha => hl a (List.mem_of_mem_drop ha)) (by rw [List.length_drop]; omega) hlr
        have hxk := decOf_ok (l := l.drop k) (fun a ha => hl a (List.mem_of_mem_drop ha)) (itB s)
        rw [List.length_drop] at hD
        have hpl : pre.length < (st.map fun x => (x.1 : Int)).length := by rw [List.length_map]; exact hi
        have hps : pre.length < (st.map Prod.snd).length := by rw [List.length_map]; exact hi
        obtain ⟨g1, o1, rfl, hg1, hc1⟩ := (hI.below hbr (Nat.le_refl _)).at_ hpl
        obtain ⟨g2, o2, rfl, hg2, hc2⟩ := hF.at_ hps
        have e1 : (st.map fun x => (x.1 : Int))[pre.length] = (k : Int) := by simp [HI.out.1, hy]
        have e2 : (st.map Prod.snd)[pre.length] = (decOf (l.drop k) (itB s)).1 := by simp [HI.out.1, hy]
        rw [e1] at hc1
        rw [e2] at hc2
        have IN : InsIn w1 g2 (o2 + pre.length * 9) (decOf (l.drop k) (itB s)).1 := insIn_of hc2
        clear hc2 e1 e2
        generalize decOf (l.drop k) (itB s) = d at *
        obtain ⟨x, nn, e⟩ := d
        obtain rfl : e = 0 := he
        obtain rfl : nn = n := hn
        unfold itB at hD
        have hAf := aft_r HI.out.2.2 hxk
        have hhas := aft_has HI.out.2.2 hxk
        have HN := Lib.hid (show st = (pre ++ [(k, x)]) ++ strmA l (k + n) (aftI s x) ∧ kHas .i64 (aftI s x) from ⟨by rw [HI.out.1, hy, hr]; simp, hhas⟩)
        have IW := Lib.hid IN
        have hq := eqB_yes (rfl : x = x)
        clear HI HST hA hAr hF hI hy hr hxk IN hhas
        dsimp only at hD hAf HN hq IW
        obtain ⟨x0, x1, x2, x3, x4, x5, x6, x7, xb⟩ := x
        dsimp only [Fields.val] at hAf
        go_wp2_with fail
        ((with_reducible refine hD.mono ?_); rintro e' w2 ⟨rfl, hb2⟩)
        have c2 : Below w1.heap.size w1 w2 := hbr.trans (hb2.mono hbr.size)
        have c3 := c2.alloc c2.size (.cells (Fields.cells ⟨x0, x1, x2, x3, x4, x5, x6, x7, xb⟩) 28)
        have IX : InsAt (w2.alloc (.cells (Fields.cells ⟨x0, x1, x2, x3, x4, x5, x6, x7, xb⟩) 28)) w2.heap.size ⟨x0, x1, x2, x3, x4, x5, x6, x7, xb⟩ := InsAt.new _ _ _
        obtain ⟨⟨p0, p1, p2, p3, p4, p5, p6, p7, p8⟩, _⟩ := IX
        obtain ⟨a0, a1, a2, a3, a4, a5, a6, a7, a8⟩ := IW.out.below c3 hg2
        simp only at p0 p1 p2 p3 p4 p5 p6 p7 p8 a0 a1 a2 a3 a4 a5 a6 a7 a8
        clear hD IW hc1
        dsimp only [Fields.val]
        go_wp2_with fail
        go_quiet (fail)
        go_wp2_with fail
        ((with_reducible refine (hAf.go (laid_below hw (hb1.trans ((below_drewN c3).mono z1)))).mono ?_); rintro e' w4 ⟨rfl, hb4⟩)
        have c4 : Below w1.heap.size w1 w4 := (below_drewN c3).trans (hb4.mono (below_drewN c3).size)
        clear p0 p1 p2 p3 p4 p5 p6 p7 p8 a0 a1 a2 a3 a4 a5 a6 a7 a8 hAf
        have hwrap : IntKind.i64.wrap ((k : Int) + (n : Int)) = ((k + n : Nat) : Int) := by
          rw [IntWalk.i64_in _ (by omega)]; omega
        go_wp2_with fail
        go_roundw
        case rel => exact ⟨pre ++ [(k, ⟨x0, x1, x2, x3, x4, x5, x6, x7, xb⟩)], _, k + n, _, rfl, by go_num, by simp, Lib.hid ⟨HN.out.1, rfl, HN.out.2⟩, hn2, c4⟩
        case measure => simp [intOf]; omega
#print axioms plc_r
end Go.Proofs.YtmaaibffgoanpaaDoor
/- For the seat: a law that answers true and only makes new memory meets its row; arguments: instructions, rows of them, rows of numbers. -/
namespace Go.Proofs.YtmaaibffgoanpaaDoor
open Go.Sx Go.ChangeShapes Go.WideShapes Go.RowKit Go.Joins Go.Deep

section
variable {H : Type} {enc : TypeId × Value → H}

theorem trodAll_below {P : Program} (hl : laidOutB P = true) {W W' : World} (hb : Below W.heap.size W W') :
    ∀ {ts : List TypeId} {vs : List Value} {ds : List (DataW H)} {ps : List MemPlace}, (∀ t ∈ ts, P.readableRec t = true ∧ t < P.types.size) →
      DataW.TrodAll enc P W 0 (fun _ => true) true ts vs ds ps → (∀ x ∈ ps, x.block < W.heap.size) → DataW.TrodAll enc P W' 0 (fun b => decide (b < W.heap.size)) true ts vs ds ps
  | [], _, _, _, _, h, _ => by
    obtain ⟨rfl, rfl, rfl⟩ := trodAll_nil h
    exact trodAll_mk0
  | t :: ts, _, _, _, hr, h, hlt => by
    obtain ⟨v, vs, d, ds, p, q, rfl, rfl, rfl, h0, r0⟩ := trodAll_cons h
    have ht := hr t (by simp)
    exact trodAll_cons_mk (Below.trod hl ht.1 ht.2 h0 hb (fun x hx => hlt x (by simp [hx]))) (trodAll_below hl hb (fun u hu => hr u (by simp [hu])) r0 (fun x hx => hlt x (by simp [hx])))

/-- A law's row: it answers true, and makes new memory alone. -/
theorem law_post {P : Program} (hl : laidOutB P = true) {f : Func} {s : ChangeSpec} {tb : TypeId} {W W' : World} {args : Array Value} {ds gs : List (DataW H)} {before : List MemPlace}
    (hs : s.vars = []) (hr : ∀ t ∈ f.params.toList, P.readableRec t = true ∧ t < P.types.size) (hW : DataW.Whole enc P f.params.toList s.vars false W args.toList ds gs before)
    (hb : Below W.heap.size W W') (ht : f.resultTypes = #[tb]) (hbool : P.underlying tb = some .bool) (hfn : s.fn H ds = { results := [.lit (.bool true)], args := ds }) :
    s.post enc P f false true false false W args (.bool true) W' := by
  have hlt := hW.lt
  have hW' := hW
  obtain ⟨p, q, hA, hV, rfl, _, _⟩ := hW
  rw [hs] at hV
  obtain ⟨rfl, rfl⟩ := trodVars_none hV
  refine ⟨ds, [], p ++ [], [], p, [], hW', ?_, ?_, ?_, ?_, fun h => by cases h⟩
  · rw [List.append_nil, hfn, ht]
    exact trodAll_mk1 (shut_bool hbool true)
  · rw [List.append_nil, hfn]
    exact trodAll_below hl hb hr hA (fun x hx => hlt x (by simp [hx]))
  · rw [List.append_nil, hfn, hs]
    rfl
  · exact hb.frame _

end

theorem laidOut : laidOutB Tryd.prog = true := by kernel_rfl
end Go.Proofs.YtmaaibffgoanpaaDoor
/- For the seat: an argument that is a row of instructions; one that is a row of numbers. -/
namespace Go.Proofs.YtmaaibffgoanpaaDoor
open Go.Sx Go.ChangeShapes Go.WideShapes Go.RowKit Go.Joins Go.Deep

section
variable {H : Type} {enc : TypeId × Value → H}

theorem oneNone {w : World} {a : Addr} {v : Value} (h : w.cell? a = some v) : a.spot = none := by
  unfold World.cell? at h
  split at h
  · cases hs : a.spot with
    | none => rfl
    | some x => simp [hs] at h
  · cases h

set_option maxRecDepth 100000 in
/-- The cells of an instruction in a row. -/
theorem open_cellsI {W : World} {fuel : Nat} {cs : List Value} {x : DataW H × List MemPlace} (hl : cs.length = 9) (h : DataW.trod enc Tryd.prog W 0 (fun _ => true) true fuel 28 cs = some x) : ∃ y : Fields, y.Ok ∧ cs = y.cells.toList := by
  have hc1 : Tryd.prog.cellsOf 3 = 1 := by kernel_rfl
  have hc2 : Tryd.prog.cellsOf 4 = 1 := by kernel_rfl
  obtain ⟨ys, n', _, _, _, hyl, hg⟩ := DataW.trod_struct Tryd.underlying28 h
  match cs, hl, ys, hyl with
  | [c0, c1, c2, c3, c4, c5, c6, c7, c8], _, [z0, z1, z2, z3, z4, z5, z6, z7, z8], _ =>
    have g0 := hg 0 _ rfl
    simp [hc1] at g0
    have g1 := hg 1 _ rfl
    simp [hc1] at g1
    have g2 := hg 2 _ rfl
    simp [hc1] at g2
    have g3 := hg 3 _ rfl
    simp [hc1] at g3
    have g4 := hg 4 _ rfl
    simp [hc1] at g4
    have g5 := hg 5 _ rfl
    simp [hc1] at g5
    have g6 := hg 6 _ rfl
    simp [hc1] at g6
    have g7 := hg 7 _ rfl
    simp [hc1] at g7
    have g8 := hg 8 _ rfl
    simp [hc2] at g8
    obtain ⟨q0, e0, _, w0⟩ := DataW.trod_int Tryd.underlying3 g0
    obtain ⟨q1, e1, _, w1⟩ := DataW.trod_int Tryd.underlying3 g1
    obtain ⟨q2, e2, _, w2⟩ := DataW.trod_int Tryd.underlying3 g2
    obtain ⟨q3, e3, _, w3⟩ := DataW.trod_int Tryd.underlying3 g3
    obtain ⟨q4, e4, _, w4⟩ := DataW.trod_int Tryd.underlying3 g4
    obtain ⟨q5, e5, _, w5⟩ := DataW.trod_int Tryd.underlying3 g5
    obtain ⟨q6, e6, _, w6⟩ := DataW.trod_int Tryd.underlying3 g6
    obtain ⟨q7, e7, _, w7⟩ := DataW.trod_int Tryd.underlying3 g7
    obtain ⟨q8, e8, _⟩ := DataW.trod_bool Tryd.underlying4 g8
    simp only [List.cons.injEq, and_true] at e0 e1 e2 e3 e4 e5 e6 e7 e8
    subst e0 e1 e2 e3 e4 e5 e6 e7 e8
    exact ⟨⟨q0, q1, q2, q3, q4, q5, q6, q7, q8⟩, ⟨wf_has w0, wf_has w1, wf_has w2, wf_has w3, wf_has w4, wf_has w5, wf_has w6, wf_has w7⟩, rfl⟩

/-- An argument that is a slice of instructions. -/
theorem open_rowI {W : World} {r : Reach} {b0 : Nat} {v : Value} {d : DataW H} {p : List MemPlace} (hv : Value.okWide Tryd.prog W r b0 24 v)
    (h : DataW.Trod enc Tryd.prog W 0 (fun _ => true) true 24 v d p) : ∃ (A : Option Addr) (cap : Nat) (l : List Fields), v = .slice A l.length cap ∧ FAt W W.heap.size A l ∧ (∀ x ∈ l, x.Ok) ∧ l.length ≤ maxLen ∧ l.length ≤ cap := by
  obtain ⟨fuel, hf⟩ := h
  obtain ⟨a0, n0, c0, rfl⟩ := okWide_slice Tryd.underlying24 hv
  rcases open_slice Tryd.underlying24 hf with ⟨hc, _⟩ | ⟨a, len, cap, m, n, D, Pl, hc, _, hl, hm, hmm, hx, hi⟩
  · simp [Value.cells] at hc
    obtain ⟨rfl, rfl, rfl⟩ := hc
    exact ⟨none, 0, [], rfl, fun h => absurd rfl h, by simp, Nat.zero_le _, Nat.zero_le _⟩
  · simp [Value.cells] at hc
    obtain ⟨rfl, rfl, rfl⟩ := hc
    simp only [if_true] at hmm
    subst hmm
    have hcc : Tryd.prog.cellsOf 28 = 9 := by kernel_rfl
    have each : ∀ i, i < n0 → ∃ y : Fields, y.Ok ∧ ∀ (j : Nat) (v : Value), y.cells[j]? = some v → W.cell? ((a.add (i * 9)).add j) = some v := by
      intro i hin
      obtain ⟨cs, h1, h2⟩ := hi i (by omega)
      rw [hcc] at h1
      obtain ⟨_, hlen, hat⟩ := World.cells?_some h1
      obtain ⟨y, hy, rfl⟩ := open_cellsI hlen h2
      refine ⟨y, hy, fun j v hv => ?_⟩
      have hj : j < 9 := by have := (Array.getElem?_eq_some_iff.1 hv).1; simpa using this
      rw [hat j hj]
      simpa using hv
    have hch : ∃ F : Nat → Fields, ∀ i, i < n0 → (F i).Ok ∧ ∀ (j : Nat) (v : Value), (F i).cells[j]? = some v → W.cell? ((a.add (i * 9)).add j) = some v := by
      refine ⟨fun i => if h : i < n0 then Classical.choose (each i h) else zeroF, fun i hin => ?_⟩
      simp only [hin, dif_pos]
      exact Classical.choose_spec (each i hin)
    obtain ⟨F, hF⟩ := hch
    refine ⟨some a, _, (List.range n0).map F, by rw [List.length_map, List.length_range], ?_, ?_, by simp; omega, by simpa using hl⟩
    · intro hne
      have hn0 : 0 < n0 := by
        rcases Nat.eq_zero_or_pos n0 with e | e
        · subst e; simp at hne
        · exact e
      have k0 := (hF 0 hn0).2 0 _ rfl
      have hsp : a.spot = none := by
        have : (a.add (0 * 9)).add 0 = a := by simp [Addr.add]
        rw [this] at k0
        exact oneNone k0
      have hab : a.block < W.heap.size := by
        have := World.block_lt_of_cell? W _ k0
        simpa [Addr.add] using this
      obtain ⟨ab, ao, asp⟩ := a
      simp only at hsp hab
      subst hsp
      have hadd : ∀ m n, (⟨ab, m, none⟩ : Addr).add n = ⟨ab, m + n, none⟩ := fun m n => by unfold Addr.add; split <;> simp_all
      refine ⟨ab, ao, rfl, hab, fun i x hx j v hv => ?_⟩
      have hin : i < n0 := by
        have := (List.getElem?_eq_some_iff.1 hx).1
        simpa using this
      have hx' : F i = x := by simpa [hin] using hx
      have := (hF i hin).2 j v (by rw [hx']; exact hv)
      rw [hadd, hadd] at this
      exact this
    · intro x hx
      obtain ⟨i, hin, rfl⟩ := List.mem_map.1 hx
      exact (hF i (by simpa using hin)).1

/-- An argument that is a slice of numbers. -/
theorem open_ints {W : World} {r : Reach} {b0 : Nat} {v : Value} {d : DataW H} {p : List MemPlace} (hv : Value.okWide Tryd.prog W r b0 22 v)
    (h : DataW.Trod enc Tryd.prog W 0 (fun _ => true) true 22 v d p) : ∃ (A : Option Addr) (cap : Nat) (l : List Int), v = .slice A l.length cap ∧ IAt W W.heap.size A l ∧ (∀ x ∈ l, kHas .i64 x) ∧ l.length ≤ maxLen ∧ l.length ≤ cap ∧ (A = none → cap = 0) := by
  obtain ⟨fuel, hf⟩ := h
  obtain ⟨a0, n0, c0, rfl⟩ := okWide_slice Tryd.underlying22 hv
  rcases open_slice1 Tryd.underlying22 (by kernel_rfl) hf with ⟨hc, _⟩ | ⟨a, len, cap, m, n, V, D, Pl, hc, _, hl, hm, hmm, hx, hi⟩
  · simp [Value.cells] at hc
    obtain ⟨rfl, rfl, rfl⟩ := hc
    exact ⟨none, 0, [], rfl, fun h => absurd rfl h, by simp, Nat.zero_le _, Nat.zero_le _, fun _ => rfl⟩
  · simp [Value.cells] at hc
    obtain ⟨rfl, rfl, rfl⟩ := hc
    simp only [if_true] at hmm
    subst hmm
    have each : ∀ i, i < n0 → ∃ y : Int, kHas .i64 y ∧ W.cell? (a.add i) = some (.int .i64 y) := by
      intro i hin
      obtain ⟨h1, h2⟩ := hi i (by omega)
      obtain ⟨q, e, _, w⟩ := DataW.trod_int Tryd.underlying3 h2
      simp only [List.cons.injEq, and_true] at e
      exact ⟨q, wf_has w, by rw [h1, e]⟩
    have hch : ∃ F : Nat → Int, ∀ i, i < n0 → kHas .i64 (F i) ∧ W.cell? (a.add i) = some (.int .i64 (F i)) := by
      refine ⟨fun i => if h : i < n0 then Classical.choose (each i h) else 0, fun i hin => ?_⟩
      simp only [hin, dif_pos]
      exact Classical.choose_spec (each i hin)
    obtain ⟨F, hF⟩ := hch
    refine ⟨some a, _, (List.range n0).map F, by rw [List.length_map, List.length_range], ?_, ?_, by simp; omega, by simpa using hl, fun h => by cases h⟩
    · intro hne
      have hn0 : 0 < n0 := by
        rcases Nat.eq_zero_or_pos n0 with e | e
        · subst e; simp at hne
        · exact e
      have k0 := (hF 0 hn0).2
      have hsp : a.spot = none := by
        have : a.add 0 = a := by simp [Addr.add]
        rw [this] at k0
        exact oneNone k0
      have hab : a.block < W.heap.size := by
        have := World.block_lt_of_cell? W _ k0
        simpa [Addr.add] using this
      obtain ⟨ab, ao, asp⟩ := a
      simp only at hsp hab
      subst hsp
      have hadd : ∀ m n, (⟨ab, m, none⟩ : Addr).add n = ⟨ab, m + n, none⟩ := fun m n => by unfold Addr.add; split <;> simp_all
      refine ⟨ab, ao, rfl, hab, fun i x hx => ?_⟩
      have hin : i < n0 := by
        have := (List.getElem?_eq_some_iff.1 hx).1
        simpa using this
      have hx' : F i = x := by simpa [hin] using hx
      have := (hF i hin).2
      rw [hx', hadd] at this
      exact this
    · intro x hx
      obtain ⟨i, hin, rfl⟩ := List.mem_map.1 hx
      exact (hF i (by simpa using hin)).1
end
end Go.Proofs.YtmaaibffgoanpaaDoor
