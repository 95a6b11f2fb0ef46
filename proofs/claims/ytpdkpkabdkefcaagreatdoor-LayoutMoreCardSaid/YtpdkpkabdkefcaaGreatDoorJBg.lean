/- For the seat: texts joined: IsG, IsH. -/
import Derived.Test.YtpdkpkabdkefcaaGreatDoorJAr
import Derived.Test.YtpdkpkabdkefcaaGreatDoorJAj
import Derived.Maps.AppendAt
set_option maxRecDepth 100000
namespace Go.Proofs.YtpdkpkabdkefcaaGreatDoor
open Go.Sx Go.ChangeShapes Go.WideShapes Go.RowKit Go.Joins Go.Deep Go.Rp
abbrev inC (x : Lk) : Array Value := #[.int .i64 x.op, .int .i64 x.ic, .int .i64 x.rd, .int .i64 x.rn, .int .i64 x.rm, .int .i64 x.im, .int .i64 x.md, .int .i64 x.ls, .bool x.s]
theorem inC_range {w : World} {b : Nat} {x : Lk} {t : TypeId} {r : List Value} (h : w.heap[b]? = some (.cells ((inC x).toList ++ r).toArray t (0, 0))) : w.rangeAt b 0 (inC x).toList := by
  intro j v hv
  simp only [World.cell?, h]
  match j, hv with
  | 0, hv | 1, hv | 2, hv | 3, hv | 4, hv | 5, hv | 6, hv | 7, hv | 8, hv => simp at hv; subst hv; rfl
  | j + 9, hv => simp at hv
theorem in_cells {w : World} {b : Nat} {x : Lk} {t : TypeId} {fr : Nat × Nat} (h : w.heap[b]? = some (.cells (inC x) t fr)) : w.cell? ⟨b, 0, none⟩ = some (.int .i64 x.op) ∧ w.cell? ⟨b, 1, none⟩ = some (.int .i64 x.ic) ∧ w.cell? ⟨b, 2, none⟩ = some (.int .i64 x.rd) ∧ w.cell? ⟨b, 3, none⟩ = some (.int .i64 x.rn) ∧
    w.cell? ⟨b, 4, none⟩ = some (.int .i64 x.rm) ∧ w.cell? ⟨b, 5, none⟩ = some (.int .i64 x.im) ∧ w.cell? ⟨b, 6, none⟩ = some (.int .i64 x.md) ∧ w.cell? ⟨b, 7, none⟩ = some (.int .i64 x.ls) ∧ w.cell? ⟨b, 8, none⟩ = some (.bool x.s) := by simp [World.cell?, h]
theorem neq_ins (a0 a1 a2 a3 a4 a5 a6 a7 b0 b1 b2 b3 b4 b5 b6 b7 : Int) (s t : Bool) (w : World) :
    (binOp .neq 44 (.agg #[.int .i64 a0, .int .i64 a1, .int .i64 a2, .int .i64 a3, .int .i64 a4, .int .i64 a5, .int .i64 a6, .int .i64 a7, .bool s]) (.agg #[.int .i64 b0, .int .i64 b1, .int .i64 b2, .int .i64 b3, .int .i64 b4, .int .i64 b5, .int .i64 b6, .int .i64 b7, .bool t])).run Tryz.prog w =
      .ok (.bool (!decide (a0 = b0 ∧ a1 = b1 ∧ a2 = b2 ∧ a3 = b3 ∧ a4 = b4 ∧ a5 = b5 ∧ a6 = b6 ∧ a7 = b7 ∧ s = t))) w := by
  have h := eql_ins a0 a1 a2 a3 a4 a5 a6 a7 b0 b1 b2 b3 b4 b5 b6 b7 s t w
  rw [run_eql_struct] at h
  rw [run_neq_struct]
  revert h
  generalize decide (a0 = b0 ∧ a1 = b1 ∧ a2 = b2 ∧ a3 = b3 ∧ a4 = b4 ∧ a5 = b5 ∧ a6 = b6 ∧ a7 = b7 ∧ s = t) = D
  intro h
  cases hq : (Op.equalIn 10000 44 (.agg #[.int .i64 a0, .int .i64 a1, .int .i64 a2, .int .i64 a3, .int .i64 a4, .int .i64 a5, .int .i64 a6, .int .i64 a7, .bool s]) (.agg #[.int .i64 b0, .int .i64 b1, .int .i64 b2, .int .i64 b3, .int .i64 b4, .int .i64 b5, .int .i64 b6, .int .i64 b7, .bool t])).run Tryz.prog w <;> rw [hq] at h <;> simp [Result.andThen] at h ⊢
  exact ⟨by rw [h.1], h.2⟩
set_option maxHeartbeats 4000000 in
theorem check_05 (x : Lk) (hx : x.ok = true) (hl : -2 ^ 63 ≤ x.ls ∧ x.ls < 2 ^ 63) (w : World) : Calls Tryz.prog 82 #[.agg (inC x)] w fun e w' => e = .returned (.int .i64 (if x.chkB then 0 else 6)) ∧ Below w.heap.size w w' := by
  obtain ⟨W0, hW0⟩ : ∃ W, Hid (W = w.alloc (.cells (inC x) 44)) := ⟨_, Lib.hid rfl⟩
  have hz0 : W0.heap[w.heap.size]? = some (.cells (inC x) 44 (0, 0)) := by rw [hW0.out]; exact heap_alloc_new w _
  have hs0 : W0.heap.size = w.heap.size + 1 := by rw [hW0.out]; simp
  have b0 : Below w.heap.size w W0 := by rw [hW0.out]; exact (Below.refl _ _).alloc (Nat.le_refl _) _
  have hr0 : W0.rangeAt w.heap.size 0 (inC x).toList := inC_range (r := []) hz0
  obtain ⟨q0, u1, u2, u3, u4, u5, u6, u7, u8⟩ := in_cells hz0
  have hR : x.chkB = ((decide (1 ≤ x.op) && decide (x.op ≤ 45)) && (x.chkL.ok && x.chkL.zB x.op)) := rfl
  generalize x.chkB = R at hR
  by_cases ho : 1 ≤ x.op ∧ x.op ≤ 45
  rotate_left
  · have hF : R = false := by
      rw [hR]
      rcases Int.lt_or_le x.op 1 with h | h
      · rw [decide_eq_false (by omega)]; rfl
      · rw [decide_eq_false (p := x.op ≤ 45) (by omega), Bool.and_false]; rfl
    subst hF
    go_enter Tryz.func82, Tryz.ntmps82
    cases a1 : decide (x.op < 1)
    · have a2 : decide (45 < x.op) = true := decide_eq_true (by have := of_decide_eq_false a1; omega)
      clear hl ho hR
      go_wp2_with (first | rw [← hW0.out] | fail)
      exact bodyPost_ret (results_tmp rfl _ _ _) rfl ⟨rfl, b0⟩
    · clear hl ho hR
      go_wp2_with (first | rw [← hW0.out] | fail)
      exact bodyPost_ret (results_tmp rfl _ _ _) rfl ⟨rfl, b0⟩
  have a1 : decide (x.op < 1) = false := decide_eq_false (by omega)
  have a2 : decide (45 < x.op) = false := decide_eq_false (by omega)
  rw [decide_eq_true ho.1, decide_eq_true ho.2, Bool.true_and, Bool.true_and] at hR
  obtain ⟨W1, hW1⟩ : ∃ W, Hid (W = W0.alloc (.cells #[.int .i64 x.op, .int .i64 x.ic, .int .i64 x.rd, .int .i64 x.rn, .int .i64 x.rm, .int .i64 x.im, .int .i64 x.md, .int .i64 x.ls, .bool x.s, .bool true] 131)) := ⟨_, Lib.hid rfl⟩
  have h : LkAt W1 W0.heap.size x := by unfold LkAt lkC; rw [hW1.out, hx]; exact heap_alloc_new W0 _
  have b1 : Below W0.heap.size W0 W1 := by rw [hW1.out]; exact (Below.refl _ _).alloc (Nat.le_refl _) _
  have q1 : W1.cell? ⟨w.heap.size, 0, none⟩ = some (.int .i64 x.op) := (b1.cell (p := ⟨w.heap.size, 0, none⟩) (by show w.heap.size < W0.heap.size; omega)).trans q0
  have hC : x.chkL = if x.op ≤ 24 then x.datL else if x.op ≤ 30 then x.rdL.spL.rnL.laL 0 4095 else if x.op ≤ 34 then x.manL else x.othL := rfl
  generalize x.chkL = Z at hR hC
  have hE : ∀ w', (binOp .neq 44 (.agg (inC Z)) (.agg #[.int .i64 x.op, .int .i64 0, .int .i64 0, .int .i64 0, .int .i64 0, .int .i64 0, .int .i64 0, .int .i64 0, .bool false])).run Tryz.prog w' = .ok (.bool (!Z.zB x.op)) w' := fun w' => neq_ins Z.op Z.ic Z.rd Z.rn Z.rm Z.im Z.md Z.ls x.op 0 0 0 0 0 0 0 Z.s false w'
  generalize Z.zB x.op = q at hR hE
  have HE := Lib.hid hE
  clear hE
  have HR := Lib.hid hR
  have HL := Lib.hid hl
  have hzl : w.heap.size < W1.heap.size := by have := b1.size; omega
  have hne : w.heap.size ≠ W0.heap.size := by omega
  have hb1 : w.heap.size ≤ W0.heap.size := b0.size
  clear hR hl ho hz0 hs0
  go_enter Tryz.func82, Tryz.ntmps82
  have fin : ∀ W, LkAt W W0.heap.size Z → Stay W0.heap.size W1 W → W.rangeAt w.heap.size 0 [] ∧ W.drew.cell? ⟨w.heap.size, 0, none⟩ = some (.int .i64 x.op) ∧ Below w.heap.size w W := fun W l s => ⟨fun j v hv => by simp at hv, (s.cell (p := ⟨w.heap.size, 0, none⟩) hzl hne).trans q1, b0.trans ((b1.mono hb1).trans (s.below (by omega) (by omega)))⟩
  have HF := Lib.hid fin
  clear fin b0 b1 hne hzl hb1 hr0
  cases e1 : decide (x.op ≤ 24)
  rotate_left
  focus
    rw [if_pos (of_decide_eq_true e1)] at hC
    have hd := lk_data h
    unfold LkPost at hd
    rw [← hC] at hd
    clear hC
    go_wp2_with (first | rw [← hW0.out] | rw [← hW1.out] | fail)
    ((with_reducible refine hd.mono ?_); rintro e w9 ⟨rfl, l9, s9⟩)
    clear hd
  rotate_right
  rw [if_neg (of_decide_eq_false e1)] at hC
  cases e2 : decide (x.op ≤ 30)
  rotate_left
  focus
    rw [if_pos (of_decide_eq_true e2)] at hC
    have h1 := lk_d h
    unfold LkPost at h1
    go_wp2_with (first | rw [← hW0.out] | rw [← hW1.out] | fail)
    ((with_reducible refine h1.mono ?_); rintro e w2 ⟨rfl, l1, s1⟩)
    clear h1
    obtain ⟨y0, y1, y2, y3, y4, y5, y6, y7, y8, y9⟩ := l1.c
    have hsp : x.rdL.spL = if x.rdL.rn = 13 then { x.rdL with rn := 0 } else x.rdL := rfl
    have f3 := l1.fz 3
    have key : ∀ w3, LkAt w3 W0.heap.size x.rdL.spL → Calls Tryz.prog 117 #[.pointer (some ⟨W0.heap.size, 0, none⟩)] w3 (LkPost W0.heap.size w3 x.rdL.spL.rnL) := fun w3 l => lk_n l
    have key2 : ∀ w3, LkAt w3 W0.heap.size x.rdL.spL.rnL → Calls Tryz.prog 118 #[.pointer (some ⟨W0.heap.size, 0, none⟩), .int .i64 0, .int .i64 4095] w3 (LkPost W0.heap.size w3 Z) := fun w3 l => by rw [hC]; exact lk_last l 0 4095
    clear hC
    generalize x.rdL.spL.rnL = S2 at key key2
    generalize x.rdL.spL = S1 at hsp key
    have key3 := fun v => l1.set (y := { x.rdL with rn := 0 }) 3 v
    unfold LkPost at key key2
    cases e4 : (x.rdL.rn == 13)
    focus
      rw [if_neg (ne_of_beq_false e4)] at hsp
      subst hsp
      have k1 := key _ l1
      generalize x.rdL.rn = rn at y3 e4
      clear key3 key
      go_wp2_with (fail)
      ((with_reducible refine k1.mono ?_); rintro e w3 ⟨rfl, l2, s2⟩)
      have k2 := key2 _ l2
      clear k1
      go_wp2_with (fail)
      ((with_reducible refine k2.mono ?_); rintro e w9 ⟨rfl, l9, s9⟩)
      replace s9 := s1.trans (s2.trans s9)
      clear k2 key2
    rotate_left
    focus
      rw [if_pos (eq_of_beq e4)] at hsp
      subst hsp
      have k1 := key _ (key3 (.int .i64 0) rfl)
      have s0 := s1.trans (Stay.set (d := W0.heap.size) _ 3 (.int .i64 0))
      generalize x.rdL.rn = rn at y3 e4
      clear key3 key s1
      go_wp2_with (fail)
      ((with_reducible refine k1.mono ?_); rintro e w3 ⟨rfl, l2, s2⟩)
      have k2 := key2 _ l2
      clear k1
      go_wp2_with (fail)
      ((with_reducible refine k2.mono ?_); rintro e w9 ⟨rfl, l9, s9⟩)
      replace s9 := s0.trans (s2.trans s9)
      clear k2 key2
  rotate_right
  rw [if_neg (of_decide_eq_false e2)] at hC
  cases e3 : decide (x.op ≤ 34)
  rotate_left
  focus
    rw [if_pos (of_decide_eq_true e3)] at hC
    have hd := lk_many h (by exact HL.out)
    unfold LkPost at hd
    rw [← hC] at hd
    clear hC
    go_wp2_with (first | rw [← hW0.out] | rw [← hW1.out] | fail)
    ((with_reducible refine hd.mono ?_); rintro e w9 ⟨rfl, l9, s9⟩)
    clear hd
  rotate_right
  focus
    rw [if_neg (of_decide_eq_false e3)] at hC
    have hd := lk_others h
    unfold LkPost at hd
    rw [← hC] at hd
    clear hC
    go_wp2_with (first | rw [← hW0.out] | rw [← hW1.out] | fail)
    ((with_reducible refine hd.mono ?_); rintro e w9 ⟨rfl, l9, s9⟩)
    clear hd
  all_goals
    obtain ⟨_, k0, bb⟩ := HF.out _ l9 s9
    obtain ⟨z0, z1, z2, z3, z4, z5, z6, z7, z8, z9⟩ := l9.c
    have hR := HR.out
    generalize Z.ok = zo at z9 hR
    clear HR HF l9 s9
    go_wp2_with (fail)
    refine wpN_start (S := fun w' => w'.cell? ⟨W0.heap.size, 0, none⟩ = some (.int .i64 Z.op) ∧ w'.cell? ⟨W0.heap.size, 1, none⟩ = some (.int .i64 Z.ic) ∧ w'.cell? ⟨W0.heap.size, 2, none⟩ = some (.int .i64 Z.rd) ∧ w'.cell? ⟨W0.heap.size, 3, none⟩ = some (.int .i64 Z.rn) ∧ w'.cell? ⟨W0.heap.size, 4, none⟩ = some (.int .i64 Z.rm) ∧ w'.cell? ⟨W0.heap.size, 5, none⟩ = some (.int .i64 Z.im) ∧ w'.cell? ⟨W0.heap.size, 6, none⟩ = some (.int .i64 Z.md) ∧ w'.cell? ⟨W0.heap.size, 7, none⟩ = some (.int .i64 Z.ls) ∧ w'.cell? ⟨W0.heap.size, 8, none⟩ = some (.bool Z.s) ∧ w'.cell? ⟨W0.heap.size, 9, none⟩ = some (.bool zo) ∧ w'.cell? ⟨w.heap.size, 0, none⟩ = some (.int .i64 x.op)) (by kernel_rfl) ⟨z0, z1, z2, z3, z4, z5, z6, z7, z8, z9, k0⟩ (fun hHeld => ?_)
    clear z0 z1 z2 z3 z4 z5 z6 z7 z8 z9
    cases zo
    · repeat (refine nx ?_; (try simp only [Act.put, List.setIfInBounds_toArray, List.set_cons_zero, List.set_cons_succ]))
      refine wpN_nil ?_
      obtain rfl : R = false := hR
      go_wp2_with (fail)
      exact bodyPost_ret (results_tmp rfl _ _ _) rfl ⟨rfl, bb.drew⟩
    · have hE := HE.out
      obtain rfl : R = q := hR
      iterate 13 (refine nx ?_; (try simp only [Act.put, List.setIfInBounds_toArray, List.set_cons_zero, List.set_cons_succ]))
      refine nx ?_ (yieldsIf_neq (by rfl) rfl rfl rfl (by kernel_rfl) hE)
      simp only [Act.put, List.setIfInBounds_toArray, List.set_cons_zero, List.set_cons_succ]
      repeat (refine nx ?_; (try simp only [Act.put, List.setIfInBounds_toArray, List.set_cons_zero, List.set_cons_succ]))
      refine wpN_nil ?_
      cases R
      · go_wp2_with (fail)
        exact bodyPost_ret (results_tmp rfl _ _ _) rfl ⟨rfl, bb.drew⟩
      · go_wp2_with (fail)
        exact bodyPost_ret (results_tmp rfl _ _ _) rfl ⟨rfl, bb.drew⟩
end Go.Proofs.YtpdkpkabdkefcaaGreatDoor
namespace Go.Proofs.YtpdkpkabdkefcaaGreatDoor
open Go.Sx Go.ChangeShapes Go.WideShapes Go.RowKit Go.Joins Go.Deep Go.Rp
section
variable {α : Type} {E : Ele α}
theorem app_wpL (w0 : World) (t ts : TypeId) {i0 : TypeInfo} {zv : Value} (hu : Tryz.prog.underlying ts = some (.slice t)) (hi0 : Tryz.prog.info? t = some i0) (hz0 : i0.zero = some zv) (hz1 : i0.size = E.z) (hz2 : i0.bytes ≤ 256) (hz3 : zv.cells.size = E.z)
    {o : Oper} {a : Act} {K : Act → World → Prop} {Q : Exit → Act → World → Prop} (s x : Operand)
    (ho : o.op = .call { callee := .builtin .append, args := #[s, x], argTypes := #[ts, ts] }) (base : Nat) (hbase : base ≤ w0.heap.size) (l m : List α) (hlen : l.length + m.length ≤ 1000000)
    (v : Value) (hs : a.eval s = v) (hown : w0.ownsRow base t E.z v l.length (encR E l)) (g n : Nat) (hx : a.eval x = .slice (some ⟨g, 0, none⟩) n n) (hg : g = w0.heap.size) (hn : n = m.length) {cs : Array Value} (hcs : cs = (encR E m).toArray)
    (h : ∀ v' w', w'.ownsRow base t E.z v' (l ++ m).length (encR E (l ++ m)) → Below base w0 w' → K (a.put o.dst v') w') : o.wp Tryz.prog a (w0.alloc (.cells cs t)) K Q := by
  subst hg hn hcs
  have hnw := World.news_of_block (cs := (encR E m).toArray) (t := t) (fr := (0, 0)) (heap_alloc_new w0 _)
  obtain ⟨v', w', hr, hown', hgrow, _, _⟩ := run_append_own_at (P := Tryz.prog) (w0.alloc (.cells (encR E m).toArray t)) base ts o.type t i0 _ E.z i0.bytes hu hi0 hz0 hz1 rfl hz3 E.pos v l.length (encR E l) (hown.alloc _) ⟨w0.heap.size, 0, none⟩ m.length m.length (encR E m) (encR_len E m) (by simpa using hnw)
    (fun u hu => encR_one E hu) (by unfold maxLen; omega) (Nat.le_trans (Nat.mul_le_mul (show l.length + m.length ≤ 1000001 by omega) hz2) (by decide)) (by simp; omega)
  unfold Oper.wp execOp
  simp only [ho, resolve, invoke, builtin, Sem.run_bind, Sem.run_pure, Result.andThen_ok, List.map_toArray, List.map_cons, List.map_nil, hs, hx, hr]
  exact h v' w' (by rw [encR_app, List.length_append]; exact hown') (((Below.refl base w0).alloc hbase _).grown hgrow (by simp; omega) (fun j hj => (hown.lt _ hj).1))
end
def fmE : Ele (Int × Bool) where
  cells x := #[.int .i64 x.1, .bool x.2]
  z := 2
  len _ := rfl
  one x u hu := by simp at hu; rcases hu with rfl | rfl <;> rfl
  pos := by decide
theorem fmInfo : (Tryz.prog.info? 100).map (fun i => (i.zero, i.size, i.bytes)) = some (some (.agg #[.int .i64 0, .bool false]), 2, 16) := by kernel_rfl
def FmRet (bs : List Bool) (e : Ending) (w' : World) : Prop := ∃ (A : Option Addr) (cap : Nat) (F : List (Int × Bool)), e = .returned (.slice A F.length cap) ∧ F.map (·.2) = bs ∧ RAt fmE w' w'.heap.size A F
theorem fm_own {w : World} {base : Nat} {v : Value} {F : List (Int × Bool)} {bs : List Bool} (h : w.ownsRow base 100 fmE.z v F.length (encR fmE F)) (hb : F.map (·.2) = bs) : FmRet bs (.returned v) w := by
  obtain ⟨A, cap, rfl, _, hr⟩ := own_row h
  exact ⟨A, cap, F, rfl, hb, hr⟩
theorem fm_row {base : Nat} (w : World) (hb : base ≤ w.heap.size) (F : List (Int × Bool)) {cs : Array Value} {n : Nat} (hcs : cs = (encR fmE F).toArray) (hn : n = F.length) (h0 : 0 < n) (hl : n ≤ 1000) : (w.alloc (.cells cs 100)).ownsRow base 100 fmE.z (.slice (some ⟨w.heap.size, 0, none⟩) n n) F.length (encR fmE F) := by
  subst hcs hn
  exact World.ownsRow_lit w (encR fmE F).toArray F.length hb (by unfold maxLen; omega) (by rw [List.size_toArray, encR_len])
theorem cell_list {w : World} {g : Nat} {cs : Array Value} {t : TypeId} (h : w.heap[g]? = some (.cells cs t (0, 0))) (j : Nat) : w.cell? ⟨g, j, none⟩ = cs[j]? := by simp [World.cell?, h]
theorem low_row (l : List Int) (hl : l.length ≤ 1000) (g : Nat) (W : World) (hW : W.heap[g]? = some (.cells (encI l).toArray 3 (0, 0))) :
    Calls Tryz.prog 159 #[.slice (some ⟨g, 0, none⟩) l.length l.length] W fun e w' => e = .returned (.bool (l.all lowB)) ∧ w' = W := by
  have hc : ∀ i, (hi : i < l.length) → W.cell? ⟨g, i, none⟩ = some (.int .i64 l[i]) := fun i hi => by
    rw [cell_list hW]
    simp [encI, hi]
  have HC := Lib.hid hc
  clear hc hW
  have hlw := low_05
  generalize hR : l.all lowB = R
  have HR : Hid ((l.drop 0).all lowB = R) := Lib.hid (by rw [List.drop_zero, hR])
  clear hR
  go_enter Tryz.func159, Tryz.ntmps159
  go_wp2_with (fail)
  go_loopw [7] (fun t wr => ∃ i : Nat, t = .int .i64 i ∧ i ≤ l.length ∧ Hid ((l.drop i).all lowB = R) ∧ wr = W) (fun t _ => l.length - (intOf t).toNat)
  case atStart => exact ⟨0, rfl, Nat.zero_le _, HR, rfl⟩
  case round =>
    obtain ⟨i, rfl, hi, he, rfl⟩ := hrel
    clear HR
    by_cases hlt : i < l.length
    · have u0 : decide ((i : Int) < (l.length : Int)) = true := decide_eq_true (by omega)
      have c0 := HC.out i hlt
      have hE := he.out
      rw [List.drop_eq_getElem_cons hlt, List.all_cons] at hE
      generalize l[i] = r at c0 hE
      have hp := hlw r
      have HE := Lib.hid hE
      clear he hE
      cases q : lowB r
      · rw [q] at hp
        obtain rfl : false = R := by have := HE.out; rw [q] at this; exact this
        go_wp2_with (fail)
        ((with_reducible refine (hp _).mono ?_); rintro e w7 ⟨rfl, rfl⟩)
        go_wp2_with (fail)
        exact bodyPost_ret (results_tmp rfl _ _ _) rfl ⟨rfl, rfl⟩
      · rw [q] at hp
        have hN : (l.drop (i + 1)).all lowB = R := by have := HE.out; rw [q] at this; exact this
        go_wp2_with (fail)
        ((with_reducible refine (hp _).mono ?_); rintro e w7 ⟨rfl, rfl⟩)
        go_wp2_with (fail)
        first
          | exact ⟨⟨i + 1, by go_num, by omega, Lib.hid hN, by first | rfl | trivial⟩, by simp [intOf]; omega⟩
          | (go_roundw; case rel => exact ⟨i + 1, by go_num, by omega, Lib.hid hN, by first | rfl | trivial⟩; case measure => (simp [intOf]; omega))
    · obtain rfl : i = l.length := by omega
      have u0 : decide ((l.length : Int) < (l.length : Int)) = false := decide_eq_false (by omega)
      have hE := he.out
      rw [List.drop_eq_nil_of_le (Nat.le_refl _)] at hE
      obtain rfl : true = R := hE
      go_wp2_with (fail)
      exact bodyPost_ret (results_tmp rfl _ _ _) rfl ⟨rfl, rfl⟩
theorem alloc_at {w : World} {o : Obj} {g : Nat} (hg : g = w.heap.size) : (w.alloc o).heap[g]? = some o := by subst hg; exact heap_alloc_new w o
theorem alloc_atd {w : World} {o : Obj} {g : Nat} (hg : g = w.heap.size) : (w.alloc o).drew.heap[g]? = some o := alloc_at hg
theorem lowp1 (a : Int) (V : World) (g : Nat) (hV : V.heap[g]? = some (.cells #[.int .i64 a] 3 (0, 0))) : Calls Tryz.prog 159 #[.slice (some ⟨g, 0, none⟩) 1 1] V fun e w' => e = .returned (.bool (lowB a)) ∧ w' = V := by
  have := low_row [a] (by simp) g V hV
  simpa [low2, low3] using this
theorem lowp2 (a b : Int) (V : World) (g : Nat) (hV : V.heap[g]? = some (.cells #[.int .i64 a, .int .i64 b] 3 (0, 0))) : Calls Tryz.prog 159 #[.slice (some ⟨g, 0, none⟩) 2 2] V fun e w' => e = .returned (.bool (low2 a b)) ∧ w' = V := by
  have := low_row [a, b] (by simp) g V hV
  simpa [low2, low3] using this
theorem lowp3 (a b c : Int) (V : World) (g : Nat) (hV : V.heap[g]? = some (.cells #[.int .i64 a, .int .i64 b, .int .i64 c] 3 (0, 0))) : Calls Tryz.prog 159 #[.slice (some ⟨g, 0, none⟩) 3 3] V fun e w' => e = .returned (.bool (low3 a b c)) ∧ w' = V := by
  have := low_row [a, b, c] (by simp) g V hV
  simpa [low2, low3] using this
def h7F (r : Int) : Int := bits BinOp.or IntKind.i64 (wrap64 (r / 8 * 128)) (bits BinOp.and IntKind.i64 r 7)
theorem h7_n (r : Int) (w : World) : Calls Tryz.prog 160 #[.int .i64 r] w fun e w' => e = .returned (.int .i64 (h7F r)) ∧ w' = w := by
  go_enter Tryz.func160, Tryz.ntmps160
  go_wp2_with (fail)
  exact bodyPost_ret (results_tmp rfl _ _ _) rfl ⟨rfl, rfl⟩
theorem pair_n (op : Int) : ∃ h : Int, ∀ w, Calls Tryz.prog 158 #[.int .i64 op] w fun e w' => e = .returned (.tuple #[.int .i64 h, .bool (pairB op)]) ∧ w' = w := by
  by_cases h : op = 1 ∨ op = 2 ∨ op = 16 ∨ op = 17 ∨ op = 18 ∨ op = 6 ∨ op = 8 ∨ op = 19 ∨ op = 3 ∨ op = 4
  · refine ⟨if op = 1 then 16384 else if op = 2 then 16448 else if op = 16 then 16512 else if op = 17 then 16576 else if op = 18 then 16640 else if op = 6 then 16704 else if op = 8 then 16768 else if op = 19 then 16832 else if op = 3 then 17152 else 17280, fun w => ?_⟩
    rcases h with rfl | rfl | rfl | rfl | rfl | rfl | rfl | rfl | rfl | rfl <;>
      (go_enter Tryz.func158, Tryz.ntmps158; go_wp2_with (fail); exact bodyPost_ret (results_tmp2 rfl _ _ _) rfl ⟨rfl, rfl⟩)
  · refine ⟨0, fun w => ?_⟩
    have hp : pairB op = false := by unfold pairB; simp; omega
    rw [hp]
    clear hp
    obtain ⟨a1, a2, a3, a4, a5, a6, a7, a8, a9, b1⟩ : (op == 1) = false ∧ (op == 2) = false ∧ (op == 16) = false ∧ (op == 17) = false ∧ (op == 18) = false ∧ (op == 6) = false ∧ (op == 8) = false ∧ (op == 19) = false ∧ (op == 3) = false ∧ (op == 4) = false := by simp; omega
    clear h
    go_enter Tryz.func158, Tryz.ntmps158
    go_wp2_with (fail)
    exact bodyPost_ret (results_tmp2 rfl _ _ _) rfl ⟨rfl, rfl⟩
end Go.Proofs.YtpdkpkabdkefcaaGreatDoor
