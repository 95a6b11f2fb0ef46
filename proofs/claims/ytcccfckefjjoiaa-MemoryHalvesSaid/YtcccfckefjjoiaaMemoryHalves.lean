/- MemoryHalves: for all cells, every address and every number the law returns true, and the arguments read as before. No condition. -/
import Derived.Test.YtcccfckefjjoiaaMemoryNone
namespace Go.Proofs.Ytcccfckefjjoiaa
open Go.ChangeShapes Go.WideShapes Go.ChangeAt Go.RowKit Go.Mem

namespace memoryHalves

theorem or16 (V g : Int) (h0 : 0 ≤ V) (h1 : V < 65536) (g0 : 0 ≤ g) (g1 : g < 65536) : bits .or .u32 V (g * 65536 % 4294967296) = V + 65536 * g := by
  have e : g * 65536 % 4294967296 = g * 65536 := by omega
  rw [e, u32_or V (g * 65536) h0 (by omega) (by omega) (by omega)]
  obtain ⟨v, rfl⟩ := Int.eq_ofNat_of_zero_le h0
  obtain ⟨y, rfl⟩ := Int.eq_ofNat_of_zero_le g0
  have e1 : ((y : Int) * 65536).toNat = 2 ^ 16 * y := by omega
  rw [e1, Int.toNat_natCast, Nat.or_comm, ← Nat.two_pow_add_eq_or_of_lt (by omega : v < 2 ^ 16)]
  omega

theorem and16 (v : Int) (h0 : 0 ≤ v) (h1 : v < 4294967296) : bits .and .u32 v 65535 = v % 65536 := by
  rw [u32_and v 65535 h0 h1 (by omega) (by omega)]
  have : v.toNat &&& (65535 : Int).toNat = v.toNat % 65536 := Nat.and_two_pow_sub_one_eq_mod v.toNat 16
  rw [this]
  omega

set_option maxHeartbeats 4000000 in
theorem walk (l : Cells) (A : Option Addr) (cap : Nat) (a v : Int) (w : World) (h : ClAt w w.heap.size A l) (hr : InR l) (v0 : 0 ≤ v) (v1 : v < 4294967296) :
    Calls Try.prog 7 #[.slice A l.length cap, .int .u32 a, .int .u32 v] w fun e w' => e = .returned (.bool true) ∧ Below w.heap.size w w' := by
  by_cases hl : 1000 < l.length
  · go_enter Try.func7, Try.ntmps7
    go_wp2_with (go_at_call 8; refine (awake_any _).mono ?_; rintro e w1 ⟨rfl, hb⟩)
    go_ret
    exact ⟨rfl, hb⟩
  · have hl2 : l.length ≤ 4294967296 := by omega
    have hnl : ¬ (1000 : Int) < (l.length : Int) := by omega
    have hand := and16 v v0 v1
    have hstep1 := halves_store (newL l) a v
    have hrn := inR_store (inR_new l hr) a 4 v
    have hx2 := load2_bound _ hrn a
    have hy2 := load2_bound _ hrn ((a + 2) % 4294967296)
    have hor := or16 _ _ hx2.1 hx2.2 hy2.1 hy2.2
    rw [← halves_load] at hor
    have HOR := Lib.hid hor
    clear hx2 hy2 hor
    go_enter Try.func7, Try.ntmps7
    go_wp2_with fail
    ((with_reducible refine (new_ex l A cap w h hl2 hr).mono ?_); rintro e w1 ⟨b1, bm1, rfl, hm1, h1, h2, hb1⟩)
    go_wp2_with fail
    ((with_reducible refine (new_ex l A cap w1 ((h.below hb1 (Nat.le_refl _)).more hb1.size) hl2 hr).mono ?_); rintro e w2 ⟨b2, bm2, rfl, hm2, h3, h4, hb2⟩)
    have hlt1 := hm1.lt
    have hbs1 := hb1.size
    have hm12 := hm1.below hb2 hlt1.1 hlt1.2
    have hbb2 := hb1.trans (hb2.mono hbs1)
    have hs1 := store_full w2 b1 bm1 _ a 4 v v0 v1 hm12
    generalize hc1 : storeL (newL l) a 4 v = c1 at *
    clear hb1 hb2 h hm1 hm12
    go_wp2_with fail
    ((with_reducible refine hs1.mono ?_); rintro e w3 ⟨rfl, hm13, hg3⟩)
    have hm23 := hm2.kept hg3 (by intro e; have := Option.some.inj e; omega) (by intro e; have := Option.some.inj e; omega)
    have hb3 : Below w.heap.size w w3 := hbb2.grown hg3 hbb2.size (fun j hj => by cases hj; exact h2)
    have hs2 := store_full w3 b2 bm2 _ a 2 (v % 65536) (by omega) (by omega) hm23
    clear hs1 hm2 hg3 hbb2
    go_wp2_with fail
    ((with_reducible refine hs2.mono ?_); rintro e w4 ⟨rfl, hm24, hg4⟩)
    have hm14 := hm13.kept hg4 (by intro e; have := Option.some.inj e; omega) (by intro e; have := Option.some.inj e; omega)
    have hb4 : Below w.heap.size w w4 := hb3.grown hg4 hb3.size (fun j hj => by cases hj; omega)
    have hs3 := store_full w4 b2 bm2 _ ((a + 2) % 4294967296) 2 (v / 65536) (by omega) (by omega) hm24
    rw [hstep1] at hs3
    clear hs2 hm13 hm23 hg4 hb3 hstep1
    go_wp2_with fail
    ((with_reducible refine hs3.mono ?_); rintro e w5 ⟨rfl, hm25, hg5⟩)
    have hm15 := hm14.kept hg5 (by intro e; have := Option.some.inj e; omega) (by intro e; have := Option.some.inj e; omega)
    have hb5 : Below w.heap.size w w5 := hb4.grown hg5 hb4.size (fun j hj => by cases hj; omega)
    clear hs3 hm14 hm24 hg5 hb4
    have st : Stable fun x => MemAt x b1 bm1 c1 ∧ MemAt x b2 bm2 c1 ∧ (w.heap.size ≤ x.heap.size ∧ Below w.heap.size w x) := (Stable.mem b1 bm1 c1).and ((Stable.mem b2 bm2 c1).and (Stable.base _ _))
    have hI5 : MemAt w5 b1 bm1 c1 ∧ MemAt w5 b2 bm2 c1 ∧ (w.heap.size ≤ w5.heap.size ∧ Below w.heap.size w w5) := ⟨hm15, hm25, hb5.size, hb5⟩
    have hlc := length_le hm15.is.1 hm15.is.2
    clear hm15 hm25 hb5
    go_wp2_with fail
    ((with_reducible refine (cells_st st (fun _ h => h.1) hI5).mono ?_); rintro e w6 ⟨A1, cap1, rfl, hI6, hA1⟩)
    have st2 := st.and (Stable.cl A1 c1)
    go_wp2_with fail
    ((with_reducible refine (cells_st st2 (fun _ h => h.1.2.1) ⟨hI6, hA1⟩).mono ?_); rintro e w7 ⟨A2, cap2, rfl, hI7, hA2⟩)
    go_wp2_with fail
    ((with_reducible refine (rSame_any c1 A1 A2 cap1 cap2 w7 hI7.2 hA2 hlc).mono ?_); rintro e w8 ⟨rfl, hb8⟩)
    have hI8 := st _ _ hI7.1 hb8
    clear hI5 hI6 hI7 hA1 hA2 st2 hb8
    go_wp2_with fail
    ((with_reducible refine (load_st st a 4 (fun _ h => h.1) hI8).mono ?_); rintro e w9 ⟨rfl, hI9⟩)
    go_wp2_with fail
    ((with_reducible refine (load_st st a 2 (fun _ h => h.1) hI9).mono ?_); rintro e w10 ⟨rfl, hI10⟩)
    go_wp2_with fail
    ((with_reducible refine (load_st st ((a + 2) % 4294967296) 2 (fun _ h => h.1) hI10).mono ?_); rintro e w11 ⟨rfl, hI11⟩)
    have hor := HOR.out
    go_wp2_with fail
    ((with_reducible refine (awake_any w11).mono ?_); rintro e w12 ⟨rfl, hb12⟩)
    have hbe := hI11.2.2.2.trans (hb12.mono hI11.2.2.1)
    clear hI8 hI9 hI10 hI11 hb12 st
    go_wp2
    go_ret
    exact ⟨rfl, hbe⟩

theorem contract (H : Type) (enc : TypeId × Value → H) (W : World) (base : Nat) (args : Array Value) (ds gs : List (DataW H)) (before : List MemPlace)
    (hval : ∀ (j : Nat) t v, Try.f7.params[j]? = some t → args[j]? = some v → Value.okWide Try.prog W .any base t v)
    (hW : DataW.Whole enc Try.prog Try.f7.params.toList Rows.memoryHalvesSpec.vars false W args.toList ds gs before) :
    Calls Try.prog 7 args W fun e W' => ∃ v, e = .returned v ∧ Rows.memoryHalvesSpec.post enc Try.prog Try.f7 false true false false W args v W' := by
  have hW' := hW
  obtain ⟨p, q, hA, _, rfl, _, _⟩ := hW
  rw [Try.params7] at hA hval
  obtain ⟨v0, v1, v2, d0, d1, d2, p0, p1, p2, rfl, rfl, rfl, h0, h1, h2⟩ := trodAll_three hA
  obtain ⟨A, cap, l, rfl, hcl, hin, hlen⟩ := open_cells (hval 0 22 v0 rfl rfl) h0
  obtain ⟨a, rfl, rfl, _, _⟩ := open_int Try.underlying28 (hval 1 28 v1 rfl rfl) h1
  obtain ⟨v, rfl, rfl, _, wv⟩ := open_int Try.underlying28 (hval 2 28 v2 rfl rfl) h2
  have hv : 0 ≤ v ∧ v ≤ 4294967295 := by simpa [Lit.wf, IntKind.min, IntKind.max, IntKind.bits, IntKind.signed] using wv
  refine (walk l A cap a v W hcl hin hv.1 (by omega)).mono fun e W' ⟨he, hb⟩ => ⟨_, he, ?_⟩
  exact law_post laidOut rfl (by rw [Try.params7]; intro t ht; simp at ht; rcases ht with rfl | rfl <;> exact ⟨by kernel_rfl, of_decide_eq_true (by kernel_rfl)⟩) hW' hb (by kernel_rfl) Try.underlying4 rfl

set_option maxRecDepth 100000 in
theorem lifted (os : Os) (started : os.Started) (H : Type) (enc : TypeId × Value → H) :
    ReturnsInHanded {} Try.checked os 7 .any (Rows.memoryHalvesSpec.pre6 enc Try.prog Try.f7 Rows.memoryHalvesRow.domain false) (Rows.memoryHalvesSpec.post enc Try.prog Try.f7 false true false false) := by
  refine returnsInHanded_of_change (C := Try.checked) own started (by kernel_rfl) Try.func7
    (ChangeSpec.witness6 (enc := enc) (C := Try.checked) false ⟨#[], #[.slice none 0 0, .int .u32 0, .int .u32 0], []⟩ 8 (by kernel_rfl) (by kernel_rfl) (by kernel_rfl) (by kernel_rfl)) ?_
  intro W base args ds gs before hval hW _ _
  exact contract H enc W base args ds gs before hval hW

theorem proved : Rows.MemoryHalvesSaid :=
  OpenClaim.holds_of_wide 7 Try.f7 rfl rfl rfl rfl rfl rfl rfl ⟨rfl, rfl, rfl, rfl, rfl⟩ rfl rfl rfl rfl rfl (by kernel_rfl) Try.func7 (by kernel_rfl)
    (of_decide_eq_true (by kernel_rfl)) (by unfold Func.isWrapper; first | (rw [if_pos (by decide +kernel)]; kernel_rfl) | (rw [if_neg (by decide +kernel)]; exact ⟨rfl, rfl⟩))
    (fun os started H enc _ => lifted os started H enc)

end memoryHalves
end Go.Proofs.Ytcccfckefjjoiaa
