/- Memory's 'of', 'set': what they do of a memory. -/
import Derived.Test.YtcccfckefjjoiaaMemMap
import Derived.Deep.RegionHeld3
import Derived.Deep.AppendLies
import Derived.Lib.Hide
namespace Go.Proofs.Ytcccfckefjjoiaa
open Go.RowKit Go.Mem Go.Maps

theorem and3 (a : Int) (h0 : 0 ≤ a) (h1 : a < 4294967296) : bits .and .u32 a 3 = a % 4 := by
  rw [u32_and a 3 h0 h1 (by omega) (by omega)]
  have : a.toNat &&& (3 : Int).toNat = a.toNat % 4 := Nat.and_two_pow_sub_one_eq_mod a.toNat 2
  rw [this]
  omega

/-- The place of an address; a block is laid. -/
theorem of_any (a : Int) (w : World) (h0 : 0 ≤ a) (h1 : a < 4294967296) :
    Calls Try.prog 21 #[.int .u32 a] w fun e w' => e = .returned (av a) ∧ ∃ cs, w' = w.alloc (.cells cs 53) := by
  have hb := and3 a h0 h1
  go_enter Try.func21, Try.ntmps21
  go_wp2
  refine bodyPost_ret (v := .agg #[.int .u32 (a / 4), .int .u32 (a % 4)]) (by simp [results, Try.results21, go_sem]) rfl ⟨rfl, #[.int .u32 (a / 4), .int .u32 (a % 4)], rfl⟩

section
variable {H : Type} {P : Program} (w : World) {ops : Array Oper} {o : Oper} {a : Act} {K : Act → World → Prop} {Q : Exit → Act → World → Prop} {E : Prop}

theorem step_of_wp (hgd : o.guard = none) (h : Oper.wp P o a w K Q) : if Region.wanted o (yielded ops a.tmps) = true then Oper.wp P o a w K Q else E := by
  have hw : Region.wanted o (yielded ops a.tmps) = true := by simp [Region.wanted, hgd]
  rw [if_pos hw]
  exact h

theorem step_delete_own (hgd : o.guard = none) (m x : Operand) (t k : TypeId) (hop : o.op = Op.call { callee := Callee.builtin Builtin.delete, args := #[m, x], argTypes := #[t, k] })
    (e : TypeId) (hk : Keyed P k) (ht : P.underlying t = some (.map k e)) (R : Value → Option (DataW H × List MemPlace)) (b n : Nat) (D : DataW H)
    (hm : a.eval m = .map (some b)) (hown : w.ownsMap P k R b n D) (key : Value) (kl : Lit) (hx : a.eval x = key) (hkey : keyOf P k key = some kl)
    (h : ∀ w', w'.ownsMap P k R b n (D.del kl) → w.grownBy w' (some b) → K (a.put o.dst (.tuple #[])) w') :
    if Region.wanted o (yielded ops a.tmps) = true then Oper.wp P o a w K Q else E := by
  refine step_of_wp w hgd ?_
  obtain ⟨w', hrun, r1, r2⟩ := hown.drop hk ht hkey o.type
  unfold Oper.wp
  simp [execOp, hop, resolve, invoke, builtin, hm, hx, hrun, Result.andThen]
  exact h w' r1 r2.grown

theorem step_update_own (hgd : o.guard = none) (m x v : Operand) (t : TypeId) (hop : o.op = Op.mapUpdate t m x v)
    (k e : TypeId) (hk : Keyed P k) (ht : P.underlying t = some (.map k e)) (R : Value → Option (DataW H × List MemPlace)) (b n : Nat) (D : DataW H)
    (hm : a.eval m = .map (some b)) (hown : w.ownsMap P k R b n D) (hn : n < maxLen) (key val : Value) (kl : Lit) (hx : a.eval x = key) (hv : a.eval v = val) (hkey : keyOf P k key = some kl)
    (d : DataW H) (ps : List MemPlace) (hval : R val = some (d, ps))
    (h : ∀ w', w'.ownsMap P k R b (n + 1) (D.put kl d) → w.grownBy w' (some b) → K (a.put o.dst undef) w') :
    if Region.wanted o (yielded ops a.tmps) = true then Oper.wp P o a w K Q else E := by
  refine step_of_wp w hgd ?_
  obtain ⟨w', hrun, r1, r2⟩ := hown.store hk ht hn hkey hval
  unfold Oper.wp
  simp [execOp, hop, hm, hx, hv, hrun, Result.andThen]
  exact h w' r1 r2.grown

end

theorem elemR_int {v : Int} (h0 : 0 ≤ v) (h1 : v < 256) : elemR (.int .u8 v) = some (.lit (.int .u8 v), []) := plainElem_int Try.underlying5 (WalkArith.wf_u8 ⟨h0, by omega⟩)

theorem grownBy_far {w w' : World} {row : Option Nat} {p : Addr} {v : Value} (h : w.cell? p = some v) (hg : w.grownBy w' row) (hne : some p.block ≠ row) : w'.cell? p = some v := by
  rw [World.cell?_of_block (hg.block p.block (World.block_lt_of_cell? w _ h) hne)]
  exact h

theorem grown_after {w w' : World} {o : Obj} {row : Option Nat} (h : (w.alloc o).drew.grownBy w' row) : w.grownBy w' row :=
  ⟨h.os, h.tape, h.output, by have := h.size; simp at this; omega, fun k hk hr => (h.block k (by simp; omega) hr).trans (Below.heap_alloc w o k hk)⟩

set_option maxHeartbeats 1000000 in
theorem set_zero (w : World) (b bm : Nat) (n : Nat) (D : DataW Unit) (a : Int) (h0 : 0 ≤ a) (h1 : a < 4294967296) (hne : b ≠ bm)
    (hc : w.cell? ⟨b, 0, none⟩ = some (.map (some bm))) (ho : w.ownsMap Try.prog 53 elemR bm n D) :
    Calls Try.prog 18 #[.pointer (some ⟨b, 0, none⟩), .int .u32 a, .int .u8 0] w fun e w' => e = .returned (.tuple #[]) ∧ w'.ownsMap Try.prog 53 elemR bm n (D.del (kl a)) ∧ w.grownBy w' (some bm) := by
  have hkey := keyOf_at h0 h1
  have hlt := World.block_lt_of_cell? w _ hc
  go_enter Try.func18, Try.ntmps18
  go_wp2_with fail
  go_region_held3 (fun w' => w'.cell? ⟨b, 0, none⟩ = some (.map (some bm)))
    (first
      | go_keep
      | (exact grownBy_far (by assumption) hgrow1 (by simpa using hne))
      | (trace_state; fail))
    (first
      | (go_at_call 21; refine (of_any a _ h0 h1).mono ?_; rintro e w' ⟨rfl, cs, rfl⟩)
      | (refine step_delete_own _ (by rfl) _ _ _ _ (by rfl) 5 placeLaw Try.underlying46 elemR bm n D (by rfl) (by first | exact ho | exact World.ownsMap.drew (World.ownsMap.alloc ho _)) _ _ (by rfl) hkey ?_; intro w1 hown1 hgrow1))
  go_wp2
  refine bodyPost_ret (results_none rfl _ _ _) rfl ?_
  exact ⟨rfl, hown1, grown_after hgrow1⟩

set_option maxHeartbeats 1000000 in
theorem set_some (w : World) (b bm : Nat) (n : Nat) (D : DataW Unit) (a v : Int) (h0 : 0 ≤ a) (h1 : a < 4294967296) (hv : v ≠ 0) (v0 : 0 ≤ v) (v1 : v < 256) (hne : b ≠ bm) (hn : n < maxLen)
    (hc : w.cell? ⟨b, 0, none⟩ = some (.map (some bm))) (ho : w.ownsMap Try.prog 53 elemR bm n D) :
    Calls Try.prog 18 #[.pointer (some ⟨b, 0, none⟩), .int .u32 a, .int .u8 v] w fun e w' => e = .returned (.tuple #[]) ∧ w'.ownsMap Try.prog 53 elemR bm (n + 1) (D.put (kl a) (.lit (.int .u8 v))) ∧ w.grownBy w' (some bm) := by
  have hkey := keyOf_at h0 h1
  have hel := elemR_int v0 v1
  have hlt := World.block_lt_of_cell? w _ hc
  obtain ⟨Wf, hW⟩ := Classical.axiomOfChoice fun o : Obj => World.ownsMap.store (World.ownsMap.drew (World.ownsMap.alloc ho o)) placeLaw Try.underlying46 hn hkey hel
  have hrun := fun o => (hW o).1
  have hcell : ∀ o, (Wf o).cell? ⟨b, 0, none⟩ = some (.map (some bm)) := fun o =>
    grownBy_far (w := (w.alloc o).drew) (by rw [show (w.alloc o).drew.cell? ⟨b, 0, none⟩ = (w.alloc o).cell? ⟨b, 0, none⟩ from rfl, World.cell?_alloc_lt w o _ hlt]; exact hc) (hW o).2.2.grown (by simpa using hne)
  have HW := Lib.hid hW
  clear hW
  go_enter Try.func18, Try.ntmps18
  go_wp2_with fail
  go_region_held3 (fun w' => w'.cell? ⟨b, 0, none⟩ = some (.map (some bm)))
    (first
      | go_keep
      | (exact hcell _))
    (first
      | (go_at_call 21; refine (of_any a _ h0 h1).mono ?_; rintro e w' ⟨rfl, cs, rfl⟩))
  go_wp2
  refine bodyPost_end (results_none rfl _ _ _) rfl ?_
  exact ⟨rfl, (HW.out _).2.1, grown_after (HW.out _).2.2.grown⟩

theorem set_any (w : World) (b bm : Nat) (c : Cells) (a v : Int) (h0 : 0 ≤ a) (h1 : a < 4294967296) (v0 : 0 ≤ v) (v1 : v < 256) (hm : MemAt w b bm c) :
    Calls Try.prog 18 #[.pointer (some ⟨b, 0, none⟩), .int .u32 a, .int .u8 v] w fun e w' => e = .returned (.tuple #[]) ∧ MemAt w' b bm (putL c a v) ∧ w.grownBy w' (some bm) := by
  have hne := hm.ne
  have hle := length_le hm.is.1 hm.is.2
  obtain ⟨hc, D, ho, hd⟩ := hm
  have lift : ∀ {w' : World} {n : Nat} {D' : DataW Unit}, MapIs D' (putL c a v) → w'.ownsMap Try.prog 53 elemR bm n D' → w.grownBy w' (some bm) → MemAt w' b bm (putL c a v) := by
    intro w' n D' hd' ho' hg
    refine ⟨grownBy_far hc hg (by simpa using hne), D', ?_, hd'⟩
    rw [← hd'.size_]
    exact tight ho'
  by_cases hv : v = 0
  · subst hv
    exact (set_zero w b bm _ D a h0 h1 hne hc ho).mono fun e w' ⟨he, ho', hg⟩ => ⟨he, lift (hd.del h0 h1) ho' hg, hg⟩
  · exact (set_some w b bm _ D a v h0 h1 hv v0 v1 hne (by unfold maxLen; omega) hc ho).mono fun e w' ⟨he, ho', hg⟩ => ⟨he, lift (hd.put h0 h1 hv v0 v1) ho' hg, hg⟩

end Go.Proofs.Ytcccfckefjjoiaa
