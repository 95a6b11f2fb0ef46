/- For the seat: texts joined: RqY, MyB, MyC, MyD, MyE, MyF, LyA, RqG, MyG, RqK, ExN. -/
import Derived.Test.YtpdkpkabdkefcaaGreatDoorJAi
import Derived.Maps.AppendAt
import Derived.Test.YtpdkpkabdkefcaaGreatDoorJAg
import Derived.Test.YtpdkpkabdkefcaaGreatDoorJAb
import Derived.Test.YtpdkpkabdkefcaaGreatDoorJAh
import Derived.Laws.StructEq
set_option maxRecDepth 100000
namespace Go.Proofs.YtpdkpkabdkefcaaGreatDoor
open Go.Sx Go.ChangeShapes Go.WideShapes Go.RowKit Go.Joins Go.Deep Go.Rp
def okW (y : Lw) : Prop := (y.lab.length ≤ lenMax ∧ y.ref.length ≤ lenMax) ∧ kHas .i64 y.k ∧ kHas .i64 y.op ∧ kHas .i64 y.ic ∧ kHas .i64 y.rd ∧ kHas .i64 y.rn ∧ kHas .i64 y.rm ∧ kHas .i64 y.im ∧ kHas .i64 y.md ∧ kHas .i64 y.ls ∧ kHas .i64 y.c ∧ kHas .i64 y.sz
def LsAt (w : World) (K : Nat → Prop) (A : Option Addr) (L : List Lw) : Prop :=
  L ≠ [] → ∃ g off, A = some ⟨g, off, none⟩ ∧ K g ∧ ∀ (i : Nat) (hi : i < L.length), okW L[i] ∧ ∃ e0 e1 e2 e3, (∀ j v, (lwC L[i] e0 e1 e2 e3)[j]? = some v → w.cell? ⟨g, off + i * 19 + j, none⟩ = some v) ∧ ExAt w K L[i].ex (.agg #[e0, e1, e2, e3])
theorem LsAt.keep {w w' : World} {K K' : Nat → Prop} {A : Option Addr} {L : List Lw} (h : LsAt w K A L) (hK : ∀ g, K g → K' g) (hk : ∀ g, K g → w'.heap[g]? = w.heap[g]?) : LsAt w' K' A L := fun hn => by
  obtain ⟨g, off, e, hg, hc⟩ := h hn
  refine ⟨g, off, e, hK _ hg, fun i hi => ?_⟩
  obtain ⟨h1, e0, e1, e2, e3, h3, h4⟩ := hc i hi
  refine ⟨h1, e0, e1, e2, e3, fun j v hv => ?_, ExAt.keep hK hk _ _ h4⟩
  rw [← h3 j v hv]
  simp only [World.cell?, hk g hg]
theorem LsAt.below {w w' : World} {K : Nat → Prop} {A : Option Addr} {L : List Lw} (h : LsAt w K A L) (hK : ∀ g, K g → g < w.heap.size) (hb : Below w.heap.size w w') : LsAt w' K A L :=
  h.keep (fun _ h => h) (fun g hg => hb.block g (hK g hg))
def fewW (y : Lw) : Bool := !decide (y.ex.few 60 300 < 0) && (!decide (300 < y.lab.length) && !decide (300 < y.ref.length))
def fewLs (L : List Lw) : Bool := decide (L.length ≤ 300) && L.all fewW
end Go.Proofs.YtpdkpkabdkefcaaGreatDoor
namespace Go.Proofs.YtpdkpkabdkefcaaGreatDoor
open Go.Sx Go.ChangeShapes Go.WideShapes Go.RowKit Go.Joins Go.Deep Go.Rp
theorem wpList_load_row {P : Program} {ops : Array Oper} {rest : List Oper} {op : Oper} {a : Act} {w : World} {Q : Exit → Act → World → Prop} (hgd : op.guard = none) (ty : TypeId) (x : Operand) (ho : op.op = .load ty x)
    (b o : Nat) (hx : a.eval x = .pointer (some ⟨b, o, none⟩)) (C : Array Value) (hc : w.rangeAt b o C.toList) (d : TypeDesc)
    (hu : P.underlying ty = some d) (hd : d.isRow = true) (hi : (P.info? ty).map (·.size) = some C.size)
    (h : wpList P ops Q rest (a.put op.dst (.agg C)) w) : wpList P ops Q (op :: rest) a w :=
  wpList_load_mid hgd ty x ho b o hx C.toList d hc hu hd (by simpa using hi) (by simpa using h)
theorem app_intG (w0 : World) {ops : Array Oper} {rest : List Oper} {o : Oper} {a : Act} {Q : Exit → Act → World → Prop} (hgd : o.guard = none) (s x : Operand)
    (ho : o.op = .call { callee := .builtin .append, args := #[s, x], argTypes := #[26, 26] }) (base : Nat) (hbase : base ≤ w0.heap.size) (l : List Int) (b : Int) (hlen : l.length ≤ 5000000000)
    (v : Value) (hs : a.eval s = v) (hown : w0.ownsRow base 3 1 v l.length (encI l)) (g : Nat) (hx : a.eval x = .slice (some ⟨g, 0, none⟩) 1 1) (hg : g = w0.heap.size)
    (h : ∀ v' w', w'.ownsRow base 3 1 v' (l ++ [b]).length (encI (l ++ [b])) → Below base w0 w' → (∀ q, q < w0.heap.size → v.ownBlock ≠ some q → w'.heap[q]? = w0.heap[q]?) → w0.heap.size ≤ w'.heap.size → (∀ q, q < w0.heap.size → v.ownBlock ≠ some q → v'.ownBlock ≠ some q) → wpList Tryz.prog ops Q rest (a.put o.dst v') w') :
    wpList Tryz.prog ops Q (o :: rest) a (w0.alloc (.cells #[.int .i64 b] 3)) := by
  subst hg
  obtain ⟨i0, hi0, hz0, hz1, hz2⟩ := info_parts intInfo
  refine wpList_append_own_at _ hgd s x 26 ho base 3 i0 _ 1 8 Tryz.underlying26 hi0 hz0 hz1 hz2 rfl (by decide) v l.length (encI l) hs (hown.alloc _) ⟨w0.heap.size, 0, none⟩ 1 1 [.int .i64 b] hx rfl (one_new _ _ _)
    (fun u hu => by simp at hu; subst hu; rfl) (by unfold maxLen; omega) (by omega) (by simp; omega) ?_
  intro v' w' hown' hgrow _ hat
  refine h v' w' (by rw [encI_snoc]; simpa using hown') ?_ ?_ ?_ ?_
  · exact ((Below.refl base w0).alloc hbase _).grown hgrow (by simp; omega) (fun j hj => (hown.lt _ hj).1)
  · intro q hq hne
    rw [hgrow.block q (by simp; omega) (fun e => hne e.symm)]
    exact Below.heap_alloc w0 _ q hq
  · have := hgrow.size
    simp at this
    omega
  · intro q hq hne e
    rcases hat with h1 | h1
    · exact hne (h1 ▸ e)
    · rw [h1] at e
      simp at e
      omega
def insB (y : Lw) : Bool := (y.k == 1) || (y.k == 2)
def begB (y : Lw) : Bool := (y.k == 1) && (y.op == 42)
def stepC (left : List Int) (y : Lw) : Int × List Int :=
  if insB y = false then (-1, left) else match left with | c :: r => (c, r) | [] => if begB y then (-1, condsP y.ic y.im) else (-1, [])
def condsL : List Lw → List Int → List Int
  | [], _ => []
  | y :: r, left => (stepC left y).1 :: condsL r (stepC left y).2
end Go.Proofs.YtpdkpkabdkefcaaGreatDoor
namespace Go.Proofs.YtpdkpkabdkefcaaGreatDoor
open Go.Sx Go.ChangeShapes Go.WideShapes Go.RowKit Go.Joins Go.Deep Go.Rp
theorem condsF_len' (c : Int) : ∀ (f : Nat) (m : Int) (l : List Int), condsF c f m = some l → l.length ≤ f
  | 0, m, l, h => by simp [condsF] at h; subst h; simp
  | f + 1, m, l, h => by
    rw [condsF] at h
    split at h
    · simp at h; subst h; simp
    split at h
    · rw [Option.map_eq_some_iff] at h
      obtain ⟨l', h1, rfl⟩ := h
      have := condsF_len' c f _ l' h1
      simp; omega
    split at h
    · cases h
    · rw [Option.map_eq_some_iff] at h
      obtain ⟨l', h1, rfl⟩ := h
      have := condsF_len' c f _ l' h1
      simp; omega
theorem condsP_len' (c m : Int) : (condsP c m).length ≤ 5 := by
  unfold condsP
  split
  · simp
  · split
    · rename_i l h
      have := condsF_len' c 4 m l h
      simp; omega
    · simp
theorem condsL_cons (y : Lw) (r : List Lw) (left : List Int) : condsL (y :: r) left = (stepC left y).1 :: condsL r (stepC left y).2 := rfl
end Go.Proofs.YtpdkpkabdkefcaaGreatDoor
namespace Go.Proofs.YtpdkpkabdkefcaaGreatDoor
open Go.Sx Go.ChangeShapes Go.WideShapes Go.RowKit Go.Joins Go.Deep Go.Rp
theorem condsL_len : ∀ (L : List Lw) (left : List Int), (condsL L left).length = L.length
  | [], _ => rfl
  | y :: r, left => by rw [condsL_cons, List.length_cons, List.length_cons, condsL_len r]
def insideL (L : List Lw) : List Bool := (condsL L []).map fun c => decide (0 ≤ c)
def BoolsRet (B : Nat) (L : List Bool) (e : Ending) (w : World) : Prop := ∃ A cap, e = .returned (.slice A L.length cap) ∧ RSl A L.length cap ∧ RAt booE w w.heap.size A L ∧ ∀ q o, A = some ⟨q, o, none⟩ → B ≤ q
end Go.Proofs.YtpdkpkabdkefcaaGreatDoor
namespace Go.Proofs.YtpdkpkabdkefcaaGreatDoor
open Go.Sx Go.ChangeShapes Go.WideShapes Go.RowKit Go.Joins Go.Deep Go.Rp
theorem bit7 : ∀ t : Fin 256, bits BinOp.and IntKind.i64 ((t.val : Nat) : Int) 7 = ((t.val % 8 : Nat) : Int) := by decide +kernel
theorem bitN : ∀ t : Fin 256, bits BinOp.or IntKind.i64 (bits BinOp.and IntKind.i64 ((t.val : Nat) : Int) 224) (bits BinOp.and IntKind.i64 (((t.val : Nat) : Int) * 2) 31) = ((t.val / 32 * 32 + 2 * t.val % 32 : Nat) : Int) := by decide +kernel
theorem bitC : ∀ (c m : Fin 16), bits BinOp.or IntKind.i64 (((c.val : Nat) : Int) * 16) ((m.val : Nat) : Int) = ((16 * c.val + m.val : Nat) : Int) := by decide +kernel
theorem next_04 (t : Nat) (h1 : t < 256) (w : World) : Calls Tryz.prog 114 #[.int .i64 (t : Int)] w fun e w' => e = .returned (.int .i64 (if t % 8 = 0 then 0 else ((t / 32 * 32 + 2 * t % 32 : Nat) : Int))) ∧ w' = w := by
  have f7 := bit7 ⟨t, h1⟩
  have fN := bitN ⟨t, h1⟩
  dsimp only at f7 fN
  go_enter Tryz.func114, Tryz.ntmps114
  cases a1 : (bits BinOp.and IntKind.i64 (t : Int) 7 == 0)
  · rw [f7] at a1
    have h8 : t % 8 ≠ 0 := by have := ne_of_beq_false a1; omega
    rw [if_neg h8, ← fN]
    rw [← f7] at a1
    clear f7 fN
    go_wp2_with (fail)
    exact bodyPost_ret (results_tmp rfl _ _ _) rfl ⟨rfl, rfl⟩
  · rw [f7] at a1
    have h8 : t % 8 = 0 := by have := eq_of_beq a1; omega
    rw [if_pos h8]
    rw [← f7] at a1
    clear f7 fN
    go_wp2_with (fail)
    exact bodyPost_ret (results_tmp rfl _ _ _) rfl ⟨rfl, rfl⟩
theorem dstep {cn d2 q : Nat} (h : d2 = 2 * (cn / 2) + q / 8) (hq : q ≤ 15) : (d2 : Int) = if decide (8 ≤ (q : Int)) = ((cn : Int) % 2 == 1) then (cn : Int) else if (cn : Int) % 2 = 0 then (cn : Int) + 1 else (cn : Int) - 1 := by
  by_cases h1 : 8 ≤ (q : Int)
  · rw [decide_eq_true h1]
    by_cases h2 : (cn : Int) % 2 = 1
    · rw [show ((cn : Int) % 2 == 1) = true by simpa using h2, if_pos rfl]; omega
    · rw [show ((cn : Int) % 2 == 1) = false by simpa using h2, if_neg (by decide), if_pos (by omega)]; omega
  · rw [decide_eq_false h1]
    by_cases h2 : (cn : Int) % 2 = 1
    · rw [show ((cn : Int) % 2 == 1) = true by simpa using h2, if_neg (by decide), if_neg (by omega)]; omega
    · rw [show ((cn : Int) % 2 == 1) = false by simpa using h2, if_pos rfl]; omega
set_option maxHeartbeats 4000000 in
theorem conds_04 (c m : Int) (w : World) : Calls Tryz.prog 81 #[.int .i64 c, .int .i64 m] w fun e w' => IntRet w.heap.size (condsP c m) e w' ∧ Below w.heap.size w w' := by
  have hR : condsP c m = if c < 0 ∨ 14 < c ∨ m < 1 ∨ 15 < m then [] else match condsF c 4 m with | some l => c :: l | none => [] := rfl
  generalize condsP c m = R at hR
  have ht := next_04
  go_enter Tryz.func81, Tryz.ntmps81
  cases a1 : decide (c < 0)
  rotate_left
  · rw [if_pos (.inl (of_decide_eq_true a1))] at hR
    subst hR
    go_wp2_with (fail)
    exact bodyPost_ret (results_tmp rfl _ _ _) rfl ⟨⟨none, 0, rfl, .inl ⟨rfl, rfl, rfl⟩, IAt.nil _ _ _, fun q o h => by cases h⟩, Below.refl _ _⟩
  cases a2 : decide (14 < c)
  rotate_left
  · rw [if_pos (.inr (.inl (of_decide_eq_true a2)))] at hR
    subst hR
    go_wp2_with (fail)
    exact bodyPost_ret (results_tmp rfl _ _ _) rfl ⟨⟨none, 0, rfl, .inl ⟨rfl, rfl, rfl⟩, IAt.nil _ _ _, fun q o h => by cases h⟩, Below.refl _ _⟩
  cases a3 : decide (m < 1)
  rotate_left
  · rw [if_pos (.inr (.inr (.inl (of_decide_eq_true a3))))] at hR
    subst hR
    go_wp2_with (fail)
    exact bodyPost_ret (results_tmp rfl _ _ _) rfl ⟨⟨none, 0, rfl, .inl ⟨rfl, rfl, rfl⟩, IAt.nil _ _ _, fun q o h => by cases h⟩, Below.refl _ _⟩
  cases a4 : decide (15 < m)
  rotate_left
  · rw [if_pos (.inr (.inr (.inr (of_decide_eq_true a4))))] at hR
    subst hR
    go_wp2_with (fail)
    exact bodyPost_ret (results_tmp rfl _ _ _) rfl ⟨⟨none, 0, rfl, .inl ⟨rfl, rfl, rfl⟩, IAt.nil _ _ _, fun q o h => by cases h⟩, Below.refl _ _⟩
  have b1 := of_decide_eq_false a1
  have b2 := of_decide_eq_false a2
  have b3 := of_decide_eq_false a3
  have b4 := of_decide_eq_false a4
  rw [if_neg (by omega)] at hR
  obtain ⟨cn, rfl⟩ : ∃ cn : Nat, c = cn := ⟨c.toNat, by omega⟩
  obtain ⟨mn, rfl⟩ : ∃ mn : Nat, m = mn := ⟨m.toNat, by omega⟩
  have HR : Hid ((match condsF cn 4 mn with | some l => [(cn : Int)] ++ l | none => []) = R) := Lib.hid hR.symm
  clear hR
  have fC := bitC ⟨cn, by omega⟩ ⟨mn, by omega⟩
  dsimp only at fC
  obtain ⟨W, hW⟩ : ∃ W, Hid (W = w.alloc (.cells #[.int .i64 (cn : Int)] 3)) := ⟨_, Lib.hid rfl⟩
  have hown0 : W.ownsRow w.heap.size 3 1 (.slice (some ⟨w.heap.size, 0, none⟩) 1 1) [(cn : Int)].length (encI [(cn : Int)]) := by
    rw [hW.out]
    exact World.ownsRow_lit w #[.int .i64 (cn : Int)] 1 (Nat.le_refl _) (by decide) rfl
  have hbW : Below w.heap.size w W := by rw [hW.out]; exact (Below.refl _ _).alloc (Nat.le_refl _) _
  go_wp2_with (first | rw [← hW.out] | fail)
  clear a1 a2 a3 a4 fC
  go_loopw [5, 6] (fun v t wr => ∃ (f d q : Nat) (acc : List Int), t = .int .i64 ((16 * d + q : Nat) : Int) ∧ d / 2 = cn / 2 ∧ d ≤ 14 ∧ 1 ≤ q ∧ q ≤ 15 ∧ f ≤ 4 ∧ (1 ≤ f ∧ (f = 1 → q % 8 = 0) ∧ (f = 2 → q % 4 = 0) ∧ (f = 3 → q % 2 = 0)) ∧ acc.length + f ≤ 10 ∧ Hid ((match condsF cn f q with | some l => acc ++ l | none => []) = R) ∧ wr.ownsRow w.heap.size 3 1 v acc.length (encI acc) ∧ Below w.heap.size w wr) (fun _ t _ => condsM (((intOf t).toNat % 16 : Nat) : Int))
  case atStart => exact ⟨4, cn, mn, [(cn : Int)], by first | rfl | (simp; done), rfl, by omega, by omega, by omega, by omega, ⟨by omega, fun h => by omega, fun h => by omega, fun h => by omega⟩, by simp, HR, hown0, hbW⟩
  case round =>
    obtain ⟨f, d, q, acc, rfl, hd, hd14, hq1, hq2, hf4, hf, hac, he, hown, hb⟩ := hrel
    clear HR
    have f7 := bit7 ⟨16 * d + q, by omega⟩
    dsimp only at f7
    have ht1 := ht (16 * d + q) (by omega)
    by_cases h8 : q = 8
    · subst h8
      have hE := he.out
      obtain ⟨f, rfl⟩ : ∃ f', f = f' + 1 := ⟨f - 1, by omega⟩
      rw [condsF, if_pos (show ((8 : Nat) : Int) = 8 from rfl)] at hE
      have hE2 : acc = R := by simpa using hE
      clear hE he ht1
      subst hE2
      have g7 : (bits BinOp.and IntKind.i64 ((16 * d + 8 : Nat) : Int) 7 != 0) = false := by rw [f7, show (16 * d + 8) % 8 = 0 by omega]; rfl
      clear f7
      generalize 16 * d + 8 = t at g7 ⊢
      obtain ⟨A, cap, rfl, h1, h2, h3⟩ := own_ints hown
      go_wp2_with fail
      exact bodyPost_ret (results_tmp rfl _ _ _) rfl ⟨⟨A, cap, rfl, h1, h2, h3⟩, hb⟩
    · obtain ⟨f, rfl⟩ : ∃ f', f = f' + 1 := ⟨f - 1, by omega⟩
      have g7 : (bits BinOp.and IntKind.i64 ((16 * d + q : Nat) : Int) 7 != 0) = true := by rw [f7]; simp; omega
      have g8 : ¬ (16 * d + q) % 8 = 0 := by omega
      rw [if_neg g8] at ht1
      obtain ⟨d2, hd2⟩ : ∃ d2, d2 = 2 * (cn / 2) + q / 8 := ⟨_, rfl⟩
      have ht2 : (16 * d + q) / 32 * 32 + 2 * (16 * d + q) % 32 = 16 * d2 + 2 * q % 16 := by omega
      rw [ht2] at ht1
      have hf' : 1 ≤ f ∧ (f = 1 → 2 * q % 16 % 8 = 0) ∧ (f = 2 → 2 * q % 16 % 4 = 0) ∧ (f = 3 → 2 * q % 16 % 2 = 0) := by refine ⟨?_, ?_, ?_, ?_⟩ <;> omega
      have hm := condsM_lt (q := (q : Int)) (by omega) (by omega) (by omega)
      have hqq : ((2 * q % 16 : Nat) : Int) = (q : Int) % 8 * 2 := by omega
      have hmt : condsM (((16 * d2 + 2 * q % 16) % 16 : Nat) : Int) < condsM (((16 * d + q) % 16 : Nat) : Int) := by
        rw [show (16 * d2 + 2 * q % 16) % 16 = 2 * q % 16 by omega, show (16 * d + q) % 16 = q by omega, hqq]
        exact hm
      have hsh : (((16 * d2 + 2 * q % 16 : Nat) : Int)) / 16 = (d2 : Int) := by omega
      have hx := dstep hd2 hq2
      have hd22 : d2 / 2 = cn / 2 := by omega
      have hE := he.out
      clear he f7 g8 ht2 hm
      have hq3 : 1 ≤ 2 * q % 16 ∧ 2 * q % 16 ≤ 15 := by omega
      generalize hq' : 2 * q % 16 = q2 at ht1 hf' hqq hmt hsh hq3
      generalize ht : 16 * d + q = t at g7 ht1 hmt ⊢
      generalize ht' : 16 * d2 + q2 = t2 at ht1 hmt hsh
      by_cases h15 : d2 = 15
      · have hc14 : cn = 14 ∧ 8 ≤ q := by omega
        obtain ⟨rfl, hq8⟩ := hc14
        rw [condsF, if_neg (by omega), decide_eq_true (by omega), if_neg (by decide), if_pos (show ((14 : Nat) : Int) = 14 from rfl)] at hE
        have hE2 : ([] : List Int) = R := hE
        clear hE
        subst hE2
        have e15 : ((d2 : Int) == 15) = true := by simp; omega
        clear hx h15 hd2
        go_wp2_with (fail)
        ((with_reducible refine (ht1 _).mono ?_); rintro e w5 ⟨rfl, rfl⟩)
        go_wp2_with (fail)
        exact bodyPost_ret (results_tmp rfl _ _ _) rfl ⟨⟨none, 0, rfl, .inl ⟨rfl, rfl, rfl⟩, IAt.nil _ _ _, fun q o h => by cases h⟩, hb⟩
      · have e15 : ((d2 : Int) == 15) = false := by simp; omega
        have he2 := Lib.hid (conds_step hx (by omega) (by
          rcases Classical.em (cn = 14) with h | h
          · subst h
            left
            rw [decide_eq_false (by omega)]; rfl
          · right; omega) hE)
        rw [← hqq] at he2
        have HD := Lib.hid hd22
        have HT := Lib.hid ht'
        clear hE hx hd22 ht' hqq hq' ht
        have hd15 : d2 ≤ 14 := by omega
        clear h15 hd2
        go_wp2_with (fail)
        ((with_reducible refine (ht1 _).mono ?_); rintro e w5 ⟨rfl, rfl⟩)
        go_wp2_with (first | (at_builtin; refine app_int w5 rfl _ _ rfl w.heap.size hb.size acc (d2 : Int) (by omega) _ rfl ?_ _ rfl rfl ?_; exact hown; intro v2 w2 hown2 hb2) | fail)
        go_roundw
        case rel => exact ⟨f, d2, q2, acc ++ [(d2 : Int)], by rw [HT.out], HD.out, hd15, hq3.1, hq3.2, by omega, hf', by simp; omega, he2, hown2, hb.trans hb2⟩
        case measure => simpa [intOf] using hmt
end Go.Proofs.YtpdkpkabdkefcaaGreatDoor
namespace Go.Proofs.YtpdkpkabdkefcaaGreatDoor
open Go.Sx Go.ChangeShapes Go.WideShapes Go.RowKit Go.Joins Go.Deep Go.Rp
def placeB (y : Lw) : Bool := (y.k == 2) || ((y.k == 1) && ((y.op == 40) || (y.op == 41)))
def reachB (y : Lw) : Bool := (y.k == 2) || ((y.k == 1) && ((y.op == 40) || ((y.op == 41) || ((y.op == 35) || ((y.op == 36) || ((y.op == 37) || (y.op == 38)))))))
def lowB (r : Int) : Bool := decide (0 ≤ r) && decide (r < 8)
theorem low_05 (r : Int) (w : World) : Calls Tryz.prog 24 #[.int .i64 r] w fun e w' => e = .returned (.bool (lowB r)) ∧ w' = w := by
  have hR : lowB r = (decide (0 ≤ r) && decide (r < 8)) := rfl
  generalize lowB r = R at hR
  have HR := Lib.hid hR
  clear hR
  go_enter Tryz.func24, Tryz.ntmps24
  cases a1 : decide (0 ≤ r)
  · go_wp2_with (fail)
    exact bodyPost_ret (results_tmp rfl _ _ _) rfl ⟨by rw [HR.out, a1]; rfl, rfl⟩
  · cases a2 : decide (r < 8)
    · go_wp2_with (fail)
      exact bodyPost_ret (results_tmp rfl _ _ _) rfl ⟨by rw [HR.out, a1, a2]; rfl, rfl⟩
    · go_wp2_with (fail)
      exact bodyPost_ret (results_tmp rfl _ _ _) rfl ⟨by rw [HR.out, a1, a2]; rfl, rfl⟩
theorem ins_18 (y : Lw) (e0 e1 e2 e3 : Value) (w : World) : Calls Tryz.prog 25 #[lwV y e0 e1 e2 e3] w fun e w' => e = .returned (.bool (insB y)) ∧ Below w.heap.size w w' := by
  have hR : insB y = ((y.k == 1) || (y.k == 2)) := rfl
  generalize insB y = R at hR
  have HR := Lib.hid hR
  clear hR
  obtain ⟨W, hW⟩ : ∃ W, Hid (W = w.alloc (.cells (lwC y e0 e1 e2 e3) 49)) := ⟨_, Lib.hid rfl⟩
  have b0 : Below w.heap.size w W := by rw [hW.out]; exact (Below.refl _ _).alloc (Nat.le_refl _) _
  have hw0 : W.heap[w.heap.size]? = some (.cells (lwC y e0 e1 e2 e3) 49 (0, 0)) := by rw [hW.out]; exact heap_alloc_new w _
  have d1 : W.cell? ⟨w.heap.size, 1, none⟩ = some (.int .i64 y.k) := by simp [World.cell?, hw0]
  have d2 : W.cell? ⟨w.heap.size, 2, none⟩ = some (.int .i64 y.op) := by simp [World.cell?, hw0]
  clear hw0
  dsimp only [lwV, lwC] at hW ⊢
  go_enter Tryz.func25, Tryz.ntmps25
  cases a1 : (y.k == 1)
  · have a1' : (y.k != 1) = true := by simpa using ne_of_beq_false a1
    cases a2 : (y.k == 2)
    · go_wp2_with (first | rw [← hW.out] | fail)
      exact bodyPost_ret (results_tmp rfl _ _ _) rfl ⟨by rw [HR.out, a1, a2]; rfl, b0⟩
    · go_wp2_with (first | rw [← hW.out] | fail)
      exact bodyPost_ret (results_tmp rfl _ _ _) rfl ⟨by rw [HR.out, a1, a2]; rfl, b0⟩
  · have a1' : (y.k != 1) = false := by simpa using eq_of_beq a1
    have a2 : (y.k == 2) = false := by rw [eq_of_beq a1]; decide
    go_wp2_with (first | rw [← hW.out] | fail)
    exact bodyPost_ret (results_tmp rfl _ _ _) rfl ⟨by rw [HR.out, a1]; rfl, b0⟩
theorem ins_b (y : Lw) (e0 e1 e2 e3 : Value) (w : World) : Calls Tryz.prog 80 #[lwV y e0 e1 e2 e3] w fun e w' => e = .returned (.bool (insB y)) ∧ Below w.heap.size w w' := by
  have hR : insB y = ((y.k == 1) || (y.k == 2)) := rfl
  generalize insB y = R at hR
  have HR := Lib.hid hR
  clear hR
  obtain ⟨W, hW⟩ : ∃ W, Hid (W = w.alloc (.cells (lwC y e0 e1 e2 e3) 49)) := ⟨_, Lib.hid rfl⟩
  have b0 : Below w.heap.size w W := by rw [hW.out]; exact (Below.refl _ _).alloc (Nat.le_refl _) _
  have hw0 : W.heap[w.heap.size]? = some (.cells (lwC y e0 e1 e2 e3) 49 (0, 0)) := by rw [hW.out]; exact heap_alloc_new w _
  have d1 : W.cell? ⟨w.heap.size, 1, none⟩ = some (.int .i64 y.k) := by simp [World.cell?, hw0]
  have d2 : W.cell? ⟨w.heap.size, 2, none⟩ = some (.int .i64 y.op) := by simp [World.cell?, hw0]
  clear hw0
  dsimp only [lwV, lwC] at hW ⊢
  go_enter Tryz.func80, Tryz.ntmps80
  cases a1 : (y.k == 1)
  · have a1' : (y.k != 1) = true := by simpa using ne_of_beq_false a1
    cases a2 : (y.k == 2)
    · go_wp2_with (first | rw [← hW.out] | fail)
      exact bodyPost_ret (results_tmp rfl _ _ _) rfl ⟨by rw [HR.out, a1, a2]; rfl, b0⟩
    · go_wp2_with (first | rw [← hW.out] | fail)
      exact bodyPost_ret (results_tmp rfl _ _ _) rfl ⟨by rw [HR.out, a1, a2]; rfl, b0⟩
  · have a1' : (y.k != 1) = false := by simpa using eq_of_beq a1
    have a2 : (y.k == 2) = false := by rw [eq_of_beq a1]; decide
    go_wp2_with (first | rw [← hW.out] | fail)
    exact bodyPost_ret (results_tmp rfl _ _ _) rfl ⟨by rw [HR.out, a1]; rfl, b0⟩
theorem place_l (y : Lw) (e0 e1 e2 e3 : Value) (w : World) : Calls Tryz.prog 23 #[lwV y e0 e1 e2 e3] w fun e w' => e = .returned (.bool (placeB y)) ∧ Below w.heap.size w w' := by
  have hR : placeB y = ((y.k == 2) || ((y.k == 1) && ((y.op == 40) || (y.op == 41)))) := rfl
  generalize placeB y = R at hR
  have HR := Lib.hid hR
  clear hR
  obtain ⟨W, hW⟩ : ∃ W, Hid (W = w.alloc (.cells (lwC y e0 e1 e2 e3) 49)) := ⟨_, Lib.hid rfl⟩
  have b0 : Below w.heap.size w W := by rw [hW.out]; exact (Below.refl _ _).alloc (Nat.le_refl _) _
  have hw0 : W.heap[w.heap.size]? = some (.cells (lwC y e0 e1 e2 e3) 49 (0, 0)) := by rw [hW.out]; exact heap_alloc_new w _
  have d1 : W.cell? ⟨w.heap.size, 1, none⟩ = some (.int .i64 y.k) := by simp [World.cell?, hw0]
  have d2 : W.cell? ⟨w.heap.size, 2, none⟩ = some (.int .i64 y.op) := by simp [World.cell?, hw0]
  clear hw0
  dsimp only [lwV, lwC] at hW ⊢
  go_enter Tryz.func23, Tryz.ntmps23
  cases a1 : (y.k == 1)
  · have a1' : (y.k != 1) = true := by simpa using ne_of_beq_false a1
    cases a2 : (y.k == 2)
    · go_wp2_with (first | rw [← hW.out] | fail)
      exact bodyPost_ret (results_tmp rfl _ _ _) rfl ⟨by rw [HR.out, a1, a2]; rfl, b0⟩
    · go_wp2_with (first | rw [← hW.out] | fail)
      exact bodyPost_ret (results_tmp rfl _ _ _) rfl ⟨by rw [HR.out, a2]; rfl, b0⟩
  · have a1' : (y.k != 1) = false := by simpa using eq_of_beq a1
    have a2 : (y.k == 2) = false := by rw [eq_of_beq a1]; decide
    cases o40 : (y.op == 40)
    rotate_left
    · go_wp2_with (first | rw [← hW.out] | fail)
      exact bodyPost_ret (results_tmp rfl _ _ _) rfl ⟨by rw [HR.out, a1, a2, o40]; rfl, b0⟩
    cases o41 : (y.op == 41)
    rotate_left
    · go_wp2_with (first | rw [← hW.out] | fail)
      exact bodyPost_ret (results_tmp rfl _ _ _) rfl ⟨by rw [HR.out, a1, a2, o40, o41]; rfl, b0⟩
    go_wp2_with (first | rw [← hW.out] | fail)
    exact bodyPost_ret (results_tmp rfl _ _ _) rfl ⟨by rw [HR.out, a1, a2, o40, o41]; rfl, b0⟩
theorem reach_l (y : Lw) (e0 e1 e2 e3 : Value) (w : World) : Calls Tryz.prog 26 #[lwV y e0 e1 e2 e3] w fun e w' => e = .returned (.bool (reachB y)) ∧ Below w.heap.size w w' := by
  have hR : reachB y = ((y.k == 2) || ((y.k == 1) && ((y.op == 40) || ((y.op == 41) || ((y.op == 35) || ((y.op == 36) || ((y.op == 37) || (y.op == 38)))))))) := rfl
  generalize reachB y = R at hR
  have HR := Lib.hid hR
  clear hR
  obtain ⟨W, hW⟩ : ∃ W, Hid (W = w.alloc (.cells (lwC y e0 e1 e2 e3) 49)) := ⟨_, Lib.hid rfl⟩
  have b0 : Below w.heap.size w W := by rw [hW.out]; exact (Below.refl _ _).alloc (Nat.le_refl _) _
  have hw0 : W.heap[w.heap.size]? = some (.cells (lwC y e0 e1 e2 e3) 49 (0, 0)) := by rw [hW.out]; exact heap_alloc_new w _
  have d1 : W.cell? ⟨w.heap.size, 1, none⟩ = some (.int .i64 y.k) := by simp [World.cell?, hw0]
  have d2 : W.cell? ⟨w.heap.size, 2, none⟩ = some (.int .i64 y.op) := by simp [World.cell?, hw0]
  clear hw0
  dsimp only [lwV, lwC] at hW ⊢
  go_enter Tryz.func26, Tryz.ntmps26
  cases a1 : (y.k == 1)
  · have a1' : (y.k != 1) = true := by simpa using ne_of_beq_false a1
    cases a2 : (y.k == 2)
    · go_wp2_with (first | rw [← hW.out] | fail)
      exact bodyPost_ret (results_tmp rfl _ _ _) rfl ⟨by rw [HR.out, a1, a2]; rfl, b0⟩
    · go_wp2_with (first | rw [← hW.out] | fail)
      exact bodyPost_ret (results_tmp rfl _ _ _) rfl ⟨by rw [HR.out, a2]; rfl, b0⟩
  · have a1' : (y.k != 1) = false := by simpa using eq_of_beq a1
    have a2 : (y.k == 2) = false := by rw [eq_of_beq a1]; decide
    cases o40 : (y.op == 40)
    rotate_left
    · go_wp2_with (first | rw [← hW.out] | fail)
      exact bodyPost_ret (results_tmp rfl _ _ _) rfl ⟨by rw [HR.out, a1, a2, o40]; rfl, b0⟩
    cases o41 : (y.op == 41)
    rotate_left
    · go_wp2_with (first | rw [← hW.out] | fail)
      exact bodyPost_ret (results_tmp rfl _ _ _) rfl ⟨by rw [HR.out, a1, a2, o40, o41]; rfl, b0⟩
    cases o35 : (y.op == 35)
    rotate_left
    · go_wp2_with (first | rw [← hW.out] | fail)
      exact bodyPost_ret (results_tmp rfl _ _ _) rfl ⟨by rw [HR.out, a1, a2, o40, o41, o35]; rfl, b0⟩
    cases o36 : (y.op == 36)
    rotate_left
    · go_wp2_with (first | rw [← hW.out] | fail)
      exact bodyPost_ret (results_tmp rfl _ _ _) rfl ⟨by rw [HR.out, a1, a2, o40, o41, o35, o36]; rfl, b0⟩
    cases o37 : (y.op == 37)
    rotate_left
    · go_wp2_with (first | rw [← hW.out] | fail)
      exact bodyPost_ret (results_tmp rfl _ _ _) rfl ⟨by rw [HR.out, a1, a2, o40, o41, o35, o36, o37]; rfl, b0⟩
    cases o38 : (y.op == 38)
    rotate_left
    · go_wp2_with (first | rw [← hW.out] | fail)
      exact bodyPost_ret (results_tmp rfl _ _ _) rfl ⟨by rw [HR.out, a1, a2, o40, o41, o35, o36, o37, o38]; rfl, b0⟩
    go_wp2_with (first | rw [← hW.out] | fail)
    exact bodyPost_ret (results_tmp rfl _ _ _) rfl ⟨by rw [HR.out, a1, a2, o40, o41, o35, o36, o37, o38]; rfl, b0⟩
end Go.Proofs.YtpdkpkabdkefcaaGreatDoor
namespace Go.Rp
theorem ite_sz {c : Prop} [Decidable c] {a b : Fs} {n : Int} (ha : a.2.sz = n) (hb : b.2.sz = n) : (if c then a else b).2.sz = n := by
  by_cases h : c
  · rw [if_pos h]; exact ha
  · rw [if_neg h]; exact hb
theorem lastL_sz (T : List Tok) (σ : Rs) (y : Lw) : (lastL T σ y).sz = y.sz := by unfold lastL; split <;> rfl
theorem stLast_sz (T : List Tok) (p : Fs) : (stLast T p).2.sz = p.2.sz := lastL_sz _ _ _
theorem stAcc_sz (T : List Tok) (p : Fs) : (stAcc T p).2.sz = p.2.sz := ite_sz (stLast_sz _ _) rfl
theorem stLoads_sz (T : List Tok) (p : Fs) : (stLoads T p).2.sz = p.2.sz := ite_sz (stAcc_sz _ _) (ite_sz (stAcc_sz _ _) (ite_sz rfl rfl))
theorem stOthers_sz (T : List Tok) (p : Fs) : (stOthers T p).2.sz = p.2.sz := ite_sz rfl (ite_sz rfl (ite_sz rfl (ite_sz rfl (ite_sz rfl (ite_sz rfl (ite_sz rfl (ite_sz rfl rfl)))))))
theorem stOps_sz (T : List Tok) (p : Fs) : (stOps T p).2.sz = p.2.sz :=
  ite_sz (stLast_sz _ _) (ite_sz (stLast_sz _ _) (ite_sz (stLast_sz _ _) (ite_sz rfl (ite_sz rfl (ite_sz (stLoads_sz _ _) (stOthers_sz _ _))))))
theorem itP_sz (T : List Tok) (m : List Bool) (p : Fs) : (itP T m p).2.sz = p.2.sz := by
  unfold itP
  split <;> rfl
theorem finL_sz (T : List Tok) (p : Fs) (h : p.2.sz = 0) : (finL T p).1.sz = 0 := by
  unfold finL
  split
  · exact h
  · rfl
theorem readLn_sz (T : List Tok) (i : Nat) : (readLn T i).1.sz = 0 := by
  unfold readLn
  split
  · split
    · exact finL_sz T _ (itP_sz T _ _)
    · split
      · exact finL_sz T _ (stOps_sz T _)
      · rfl
  · rfl
theorem finD_sz (T : List Tok) (p : Fs) (n : Int) (hn : 0 ≤ n) (h : p.2.sz ≤ n) : (finD T p).1.sz ≤ n := by
  unfold finD
  split
  · exact h
  · exact hn
theorem alignS_le (n : Int) : alignS n ≤ 1048576 := by
  unfold alignS
  have h1 : (n % 16).toNat < 16 := by omega
  have h2 : ∀ k : Fin 16, Go.RowKit.wrap64 (2 ^ k.val) ≤ 1048576 := by decide +kernel
  exact h2 ⟨_, h1⟩
theorem sizeP_le (w : Bs) : sizeP w ≤ 4 := by
  unfold sizeP
  repeat' split
  all_goals omega
theorem dirP_sz (T : List Tok) : (dirP T).1.sz ≤ 1048576 := by
  unfold dirP
  split
  · refine finD_sz T _ _ (by decide) ?_
    have := sizeP_le (tokA T 0).t
    show sizeP (tokA T 0).t ≤ _
    omega
  split
  · exact finD_sz T _ _ (by decide) (by show (0 : Int) ≤ _; decide)
  split
  · split
    · exact finD_sz T _ _ (by decide) (by show (0 : Int) ≤ _; decide)
    · show (0 : Int) ≤ _; decide
  split
  · split
    · show (0 : Int) ≤ _; decide
    split
    · split
      · show (0 : Int) ≤ _; decide
      · exact alignS_le _
    · split
      · show (0 : Int) ≤ _; decide
      · show (tokA T 1).n ≤ _; omega
  · show (0 : Int) ≤ _; decide
theorem oneT_sz (T : List Tok) (lab : Bs) : (oneT T lab).1.sz ≤ 1048576 := by
  unfold oneT
  split
  · show (0 : Int) ≤ _; decide
  split
  · show (0 : Int) ≤ _; decide
  split
  · split
    · exact dirP_sz T
    · show (0 : Int) ≤ _; decide
  split
  · show (readLn T 0).1.sz ≤ _
    rw [readLn_sz]; decide
  · show (0 : Int) ≤ _; decide
theorem oneX_sz (s : Bs) : (oneX s).1.sz ≤ 1048576 := by
  unfold oneX
  split
  · show (0 : Int) ≤ _; decide
  · exact oneT_sz _ _
theorem lineOk_sz {y : Lw} (h : lineOk y = true) : y.sz ≤ 1048576 := by
  unfold lineOk at h
  rw [Bool.and_eq_true, Lw.beq_iff] at h
  rw [← h.2]
  exact oneX_sz _
end Go.Rp
namespace Go.Proofs.YtpdkpkabdkefcaaGreatDoor
open Go.Sx Go.ChangeShapes Go.WideShapes Go.RowKit Go.Joins Go.Deep Go.Rp
theorem eql_ins (a0 a1 a2 a3 a4 a5 a6 a7 b0 b1 b2 b3 b4 b5 b6 b7 : Int) (s t : Bool) (w : World) :
    (binOp .eql 44 (.agg #[.int .i64 a0, .int .i64 a1, .int .i64 a2, .int .i64 a3, .int .i64 a4, .int .i64 a5, .int .i64 a6, .int .i64 a7, .bool s]) (.agg #[.int .i64 b0, .int .i64 b1, .int .i64 b2, .int .i64 b3, .int .i64 b4, .int .i64 b5, .int .i64 b6, .int .i64 b7, .bool t])).run Tryz.prog w =
      .ok (.bool (decide (a0 = b0 ∧ a1 = b1 ∧ a2 = b2 ∧ a3 = b3 ∧ a4 = b4 ∧ a5 = b5 ∧ a6 = b6 ∧ a7 = b7 ∧ s = t))) w := by
  rw [run_eql_struct, run_equalIn_struct w 9999 _ _ _ (by kernel_rfl) (by kernel_rfl)]
  go_simp
  by_cases h0 : a0 = b0
  rotate_left
  · simp [h0]
  by_cases h1 : a1 = b1
  rotate_left
  · simp [h1]
  by_cases h2 : a2 = b2
  rotate_left
  · simp [h2]
  by_cases h3 : a3 = b3
  rotate_left
  · simp [h3]
  by_cases h4 : a4 = b4
  rotate_left
  · simp [h4]
  by_cases h5 : a5 = b5
  rotate_left
  · simp [h5]
  by_cases h6 : a6 = b6
  rotate_left
  · simp [h6]
  by_cases h7 : a7 = b7
  rotate_left
  · simp [h7]
  by_cases h8 : s = t
  rotate_left
  · simp [h8]
  simp [h0, h1, h2, h3, h4, h5, h6, h7, h8]
set_option maxHeartbeats 8000000 in
theorem same18 (y z : Lw) {w : World} {e0 e1 e2 e3 f0 f1 f2 f3 : Value} (K : Nat → Prop) (hx : ExAt w K y.ex (.agg #[e0, e1, e2, e3])) (hz : ExAt w K z.ex (.agg #[f0, f1, f2, f3])) (hK : ∀ g, K g → g < w.heap.size) :
    Calls Tryz.prog 51 #[lwV y e0 e1 e2 e3, lwV z f0 f1 f2 f3] w fun e w' => e = .returned (.bool (y.beq z)) ∧ Below w.heap.size w w' := by
  have hR : y.beq z = (y.lab == z.lab && (decide (y.k = z.k) && (y.insEq z && (decide (y.c = z.c) && (y.ref == z.ref && ((y.wd == z.wd) && (decide (y.sz = z.sz) && y.ex.beq z.ex))))))) := rfl
  generalize y.beq z = R at hR
  have hI : y.insEq z = decide (y.op = z.op ∧ y.ic = z.ic ∧ y.rd = z.rd ∧ y.rn = z.rn ∧ y.rm = z.rm ∧ y.im = z.im ∧ y.md = z.md ∧ y.ls = z.ls ∧ y.s = z.s) := rfl
  have hE := fun w' => eql_ins y.op y.ic y.rd y.rn y.rm y.im y.md y.ls z.op z.ic z.rd z.rn z.rm z.im z.md z.ls y.s z.s w'
  rw [← hI] at hE
  generalize y.insEq z = q at hR hE
  clear hI
  have hsame : ∀ w', Below w.heap.size w w' → Calls Tryz.prog 79 #[.agg #[e0, e1, e2, e3], .agg #[f0, f1, f2, f3]] w' fun e w'' => e = .returned (.bool (y.ex.beq z.ex)) ∧ Below w'.heap.size w' w'' := fun w' hb => same17 y.ex z.ex _ _ w' K (hx.below hb hK) (hz.below hb hK) (fun g hg => Nat.lt_of_lt_of_le (hK g hg) hb.size)
  generalize y.ex.beq z.ex = r at hR hsame
  obtain ⟨W, hW⟩ : ∃ W, W = (w.alloc (.cells (lwC y e0 e1 e2 e3) 49)).alloc (.cells (lwC z f0 f1 f2 f3) 49) := ⟨_, rfl⟩
  have hs : (w.alloc (.cells (lwC y e0 e1 e2 e3) 49)).heap.size = w.heap.size + 1 := by simp
  have b0 : Below w.heap.size w W := by rw [hW]; exact ((Below.refl _ _).alloc (Nat.le_refl _) _).alloc (by simp) _
  have hw0 : W.heap[w.heap.size]? = some (.cells (lwC y e0 e1 e2 e3) 49 (0, 0)) := by rw [hW]; exact alloc_blk (heap_alloc_new w _) _
  have hw1 : W.heap[w.heap.size + 1]? = some (.cells (lwC z f0 f1 f2 f3) 49 (0, 0)) := by rw [hW, ← hs]; exact heap_alloc_new _ _
  have hs0 : W.heap.size = w.heap.size + 2 := by rw [hW]; simp
  clear hs hx hz hK
  have hsame := hsame W b0
  obtain ⟨lab, k, op, ic, rd, rn, rm, im, md, ls, s, c, ref, wd, sz, ex⟩ := y
  obtain ⟨lab', k', op', ic', rd', rn', rm', im', md', ls', s', c', ref', wd', sz', ex'⟩ := z
  dsimp only [lwC] at hW hw0 hw1 hR hE
  dsimp only [lwV, lwC]
  obtain ⟨c0, c1, c2, c3, c4, c5, c6, c7, c8, c9, c10, c11, c12, c13, c14, c15, c16, c17, c18⟩ : W.cell? ⟨w.heap.size, 0, none⟩ = some (.string (tx lab)) ∧ W.cell? ⟨w.heap.size, 1, none⟩ = some (.int .i64 k) ∧ W.cell? ⟨w.heap.size, 2, none⟩ = some (.int .i64 op) ∧ W.cell? ⟨w.heap.size, 3, none⟩ = some (.int .i64 ic) ∧ W.cell? ⟨w.heap.size, 4, none⟩ = some (.int .i64 rd) ∧ W.cell? ⟨w.heap.size, 5, none⟩ = some (.int .i64 rn) ∧ W.cell? ⟨w.heap.size, 6, none⟩ = some (.int .i64 rm) ∧ W.cell? ⟨w.heap.size, 7, none⟩ = some (.int .i64 im) ∧ W.cell? ⟨w.heap.size, 8, none⟩ = some (.int .i64 md) ∧ W.cell? ⟨w.heap.size, 9, none⟩ = some (.int .i64 ls) ∧ W.cell? ⟨w.heap.size, 10, none⟩ = some (.bool s) ∧ W.cell? ⟨w.heap.size, 11, none⟩ = some (.int .i64 c) ∧ W.cell? ⟨w.heap.size, 12, none⟩ = some (.string (tx ref)) ∧ W.cell? ⟨w.heap.size, 13, none⟩ = some (.bool wd) ∧ W.cell? ⟨w.heap.size, 14, none⟩ = some (.int .i64 sz) ∧ W.cell? ⟨w.heap.size, 15, none⟩ = some (e0) ∧ W.cell? ⟨w.heap.size, 16, none⟩ = some (e1) ∧ W.cell? ⟨w.heap.size, 17, none⟩ = some (e2) ∧ W.cell? ⟨w.heap.size, 18, none⟩ = some (e3) := by
    simp [World.cell?, hw0]
  obtain ⟨d0, d1, d2, d3, d4, d5, d6, d7, d8, d9, d10, d11, d12, d13, d14, d15, d16, d17, d18⟩ : W.cell? ⟨w.heap.size + 1, 0, none⟩ = some (.string (tx lab')) ∧ W.cell? ⟨w.heap.size + 1, 1, none⟩ = some (.int .i64 k') ∧ W.cell? ⟨w.heap.size + 1, 2, none⟩ = some (.int .i64 op') ∧ W.cell? ⟨w.heap.size + 1, 3, none⟩ = some (.int .i64 ic') ∧ W.cell? ⟨w.heap.size + 1, 4, none⟩ = some (.int .i64 rd') ∧ W.cell? ⟨w.heap.size + 1, 5, none⟩ = some (.int .i64 rn') ∧ W.cell? ⟨w.heap.size + 1, 6, none⟩ = some (.int .i64 rm') ∧ W.cell? ⟨w.heap.size + 1, 7, none⟩ = some (.int .i64 im') ∧ W.cell? ⟨w.heap.size + 1, 8, none⟩ = some (.int .i64 md') ∧ W.cell? ⟨w.heap.size + 1, 9, none⟩ = some (.int .i64 ls') ∧ W.cell? ⟨w.heap.size + 1, 10, none⟩ = some (.bool s') ∧ W.cell? ⟨w.heap.size + 1, 11, none⟩ = some (.int .i64 c') ∧ W.cell? ⟨w.heap.size + 1, 12, none⟩ = some (.string (tx ref')) ∧ W.cell? ⟨w.heap.size + 1, 13, none⟩ = some (.bool wd') ∧ W.cell? ⟨w.heap.size + 1, 14, none⟩ = some (.int .i64 sz') ∧ W.cell? ⟨w.heap.size + 1, 15, none⟩ = some (f0) ∧ W.cell? ⟨w.heap.size + 1, 16, none⟩ = some (f1) ∧ W.cell? ⟨w.heap.size + 1, 17, none⟩ = some (f2) ∧ W.cell? ⟨w.heap.size + 1, 18, none⟩ = some (f3) := by
    simp [World.cell?, hw1]
  have t1 : ((tx lab).toList == (tx lab').toList) = (lab == lab') := tx_beq _ _
  have t2 : ((tx ref).toList == (tx ref').toList) = (ref == ref') := tx_beq _ _
  have HR := Lib.hid hR
  clear hR hw0 hw1
  go_enter Tryz.func51, Tryz.ntmps51
  cases a0 : (lab == lab')
  · have hR := HR.out
    simp only [a0, Bool.false_and] at hR
    clear HR
    obtain rfl := hR
    go_wp2_with (fail)
    exact bodyPost_ret (results_tmp rfl _ _ _) rfl ⟨rfl, by rw [← hW]; exact b0⟩
  cases a1 : (k == k')
  · have u1 : decide (k = k') = false := decide_eq_false (ne_of_beq_false a1)
    have hR := HR.out
    simp only [a0, u1, Bool.false_and, Bool.and_false] at hR
    clear HR u1
    obtain rfl := hR
    go_wp2_with (fail)
    exact bodyPost_ret (results_tmp rfl _ _ _) rfl ⟨rfl, by rw [← hW]; exact b0⟩
  cases q
  · have u1 : decide (k = k') = true := decide_eq_true (eq_of_beq a1)
    have hR := HR.out
    simp only [a0, u1, Bool.false_and, Bool.and_false] at hR
    clear HR u1
    obtain rfl := hR
    go_wp2_with (fail)
    exact bodyPost_ret (results_tmp rfl _ _ _) rfl ⟨rfl, by rw [← hW]; exact b0⟩
  cases a3 : (c == c')
  · have u1 : decide (k = k') = true := decide_eq_true (eq_of_beq a1)
    have u3 : decide (c = c') = false := decide_eq_false (ne_of_beq_false a3)
    have hR := HR.out
    simp only [a0, u1, u3, Bool.false_and, Bool.and_false] at hR
    clear HR u1 u3
    obtain rfl := hR
    go_wp2_with (fail)
    exact bodyPost_ret (results_tmp rfl _ _ _) rfl ⟨rfl, by rw [← hW]; exact b0⟩
  cases a4 : (ref == ref')
  · have u1 : decide (k = k') = true := decide_eq_true (eq_of_beq a1)
    have u3 : decide (c = c') = true := decide_eq_true (eq_of_beq a3)
    have hR := HR.out
    simp only [a0, u1, u3, a4, Bool.false_and, Bool.and_false] at hR
    clear HR u1 u3
    obtain rfl := hR
    go_wp2_with (fail)
    exact bodyPost_ret (results_tmp rfl _ _ _) rfl ⟨rfl, by rw [← hW]; exact b0⟩
  cases a5 : (wd == wd')
  · have u1 : decide (k = k') = true := decide_eq_true (eq_of_beq a1)
    have u3 : decide (c = c') = true := decide_eq_true (eq_of_beq a3)
    have hR := HR.out
    simp only [a0, u1, u3, a4, a5, Bool.false_and, Bool.and_false] at hR
    clear HR u1 u3
    obtain rfl := hR
    go_wp2_with (fail)
    exact bodyPost_ret (results_tmp rfl _ _ _) rfl ⟨rfl, by rw [← hW]; exact b0⟩
  cases a6 : (sz == sz')
  · have u1 : decide (k = k') = true := decide_eq_true (eq_of_beq a1)
    have u3 : decide (c = c') = true := decide_eq_true (eq_of_beq a3)
    have u6 : decide (sz = sz') = false := decide_eq_false (ne_of_beq_false a6)
    have hR := HR.out
    simp only [a0, u1, u3, a4, a5, u6, Bool.false_and, Bool.and_false] at hR
    clear HR u1 u3 u6
    obtain rfl := hR
    go_wp2_with (fail)
    exact bodyPost_ret (results_tmp rfl _ _ _) rfl ⟨rfl, by rw [← hW]; exact b0⟩
  have u1 : decide (k = k') = true := decide_eq_true (eq_of_beq a1)
  have u3 : decide (c = c') = true := decide_eq_true (eq_of_beq a3)
  have u6 : decide (sz = sz') = true := decide_eq_true (eq_of_beq a6)
  have hR := HR.out
  simp only [a0, u1, u3, a4, a5, u6, Bool.true_and] at hR
  clear HR u1 u3 u6
  obtain rfl := hR
  go_wp2_with (fail)
  try rw [← hW]
  ((with_reducible refine hsame.mono ?_); rintro e w8 ⟨rfl, hb8⟩)
  go_wp2_with (fail)
  exact bodyPost_ret (results_tmp rfl _ _ _) rfl ⟨rfl, b0.trans (hb8.mono b0.size)⟩
end Go.Proofs.YtpdkpkabdkefcaaGreatDoor
namespace Go.Proofs.YtpdkpkabdkefcaaGreatDoor
open Go.Sx Go.ChangeShapes Go.WideShapes Go.RowKit Go.Joins Go.Deep Go.Rp
set_option maxHeartbeats 4000000 in
theorem ints01 (a b : List Int) (hla : a.length ≤ 1000000000) (hlb : b.length ≤ 1000000000) (A B : Option Addr) (ca cb : Nat) (w : World) (hA : IAt w w.heap.size A a) (hB : IAt w w.heap.size B b) :
    Calls Tryz.prog 8 #[.slice A a.length ca, .slice B b.length cb] w fun e w' => e = .returned (.bool (decide (a = b))) ∧ Below w.heap.size w w' := by
  have hR : ∀ q : Bool, (q = true ↔ a = b) → decide (a = b) = q := fun q h => by
    cases q
    · exact decide_eq_false (fun e => by have := h.2 e; cases this)
    · exact decide_eq_true (h.1 rfl)
  have HR := Lib.hid hR
  clear hR
  generalize decide (a = b) = R at HR
  go_enter Tryz.func8, Tryz.ntmps8
  cases u : ((a.length : Int) == (b.length : Int))
  · have u' : ((a.length : Int) != (b.length : Int)) = true := by simpa using ne_of_beq_false u
    have hr : R = false := HR.out false ⟨fun h => (by cases h), fun h => by have := ne_of_beq_false u; rw [h] at this; exact absurd rfl this⟩
    clear HR
    subst hr
    go_wp2_with (fail)
    exact bodyPost_ret (results_tmp rfl _ _ _) rfl ⟨rfl, Below.refl _ _⟩
  have u' : ((a.length : Int) != (b.length : Int)) = false := by simpa using eq_of_beq u
  have HL : Hid (a.length = b.length) := Lib.hid (by have := eq_of_beq u; omega)
  go_wp2_with (fail)
  clear u u'
  go_loopw [5] (fun t wr => ∃ i : Nat, t = .int .i64 i ∧ i ≤ a.length ∧ Hid (a.take i = b.take i) ∧ Below w.heap.size w wr) (fun t _ => a.length - (intOf t).toNat)
  case atStart => exact ⟨0, rfl, Nat.zero_le _, Lib.hid (by simp), Below.refl _ _⟩
  case round =>
    obtain ⟨i, rfl, hi, he, hb⟩ := hrel
    by_cases hlt : i < a.length
    · have u0 : decide ((i : Int) < (a.length : Int)) = true := decide_eq_true (by omega)
      have hltb : i < b.length := by have := HL.out; omega
      obtain ⟨ga, oa, rfl, hga, hca⟩ := hA (by rintro rfl; simp at hlt)
      obtain ⟨gb, ob, rfl, hgb, hcb⟩ := hB (by rintro rfl; simp at hltb)
      have c1 : wr.cell? ⟨ga, oa + i, none⟩ = some (.int .i64 a[i]) := (hb.cell (p := ⟨ga, oa + i, none⟩) hga).trans (hca i a[i] (by simp [hlt]))
      have c2 : wr.cell? ⟨gb, ob + i, none⟩ = some (.int .i64 b[i]) := (hb.cell (p := ⟨gb, ob + i, none⟩) hgb).trans (hcb i b[i] (by simp [hltb]))
      have t1 : a.take (i + 1) = a.take i ++ [a[i]] := by rw [List.take_add_one, List.getElem?_eq_getElem hlt]; rfl
      have t2 : b.take (i + 1) = b.take i ++ [b[i]] := by rw [List.take_add_one, List.getElem?_eq_getElem hltb]; rfl
      have hxy : a[i] ≠ b[i] → a ≠ b := fun h e => h (by simp only [e])
      have T1 := Lib.hid t1
      have T2 := Lib.hid t2
      clear hca hcb t1 t2
      generalize hx : a[i] = x at c1 hxy T1
      generalize hy : b[i] = y at c2 hxy T2
      clear hx hy
      have hbd := hb.drew
      cases e : (x == y)
      · have e' : (x != y) = true := by simpa using ne_of_beq_false e
        have hr : R = false := HR.out false ⟨fun h => (by cases h), fun h => absurd h (hxy (ne_of_beq_false e))⟩
        clear HR hxy
        subst hr
        go_wp2_with (fail)
        go_region_with (fail)
        all_goals (try go_wp2_with (fail))
        all_goals exact bodyPost_ret (results_tmp rfl _ _ _) rfl ⟨rfl, hbd⟩
      · have e' : (x != y) = false := by simpa using eq_of_beq e
        have HX := Lib.hid (eq_of_beq e)
        clear hxy
        go_wp2_with (fail)
        go_region_with (fail)
        all_goals (try go_wp2_with (fail))
        all_goals refine ⟨⟨i + 1, by go_num, by omega, Lib.hid (by rw [T1.out, T2.out, he.out, HX.out]), hbd⟩, by simp [intOf]; omega⟩
    · obtain rfl : i = a.length := by omega
      have u0 : decide ((a.length : Int) < (a.length : Int)) = false := decide_eq_false (by omega)
      have hab : a = b := by
        have := he.out
        rw [List.take_length, HL.out, List.take_length] at this
        exact this
      have hr : R = true := HR.out true ⟨fun _ => hab, fun _ => rfl⟩
      clear HR he hab
      subst hr
      go_wp2_with fail
      exact bodyPost_ret (results_tmp rfl _ _ _) rfl ⟨rfl, hb⟩
end Go.Proofs.YtpdkpkabdkefcaaGreatDoor
namespace Go.Proofs.YtpdkpkabdkefcaaGreatDoor
open Go.Sx Go.ChangeShapes Go.WideShapes Go.RowKit Go.Joins Go.Deep Go.Rp
theorem size19 (s : Bs) (w : World) : Calls Tryz.prog 105 #[.string (tx s)] w fun e w' => e = .returned (.int .i64 (sizeP s)) ∧ w' = w := by
  have hR : sizeP s = if s = [46, 119, 111, 114, 100] then 4 else if s = [46, 104, 119, 111, 114, 100] then 2 else if s = [46, 98, 121, 116, 101] then 1 else 0 := rfl
  generalize sizeP s = R at hR
  have HR := Lib.hid hR
  clear hR
  go_enter Tryz.func105, Tryz.ntmps105
  cases a1 : (s == [46, 119, 111, 114, 100])
  rotate_left
  · have hR := HR.out
    rw [if_pos (eq_of_beq a1)] at hR
    subst hR
    go_wp2_with (fail)
    exact bodyPost_ret (results_tmp rfl _ _ _) rfl ⟨rfl, rfl⟩
  cases a2 : (s == [46, 104, 119, 111, 114, 100])
  rotate_left
  · have hR := HR.out
    rw [if_neg (ne_of_beq_false a1), if_pos (eq_of_beq a2)] at hR
    subst hR
    go_wp2_with (fail)
    exact bodyPost_ret (results_tmp rfl _ _ _) rfl ⟨rfl, rfl⟩
  cases a3 : (s == [46, 98, 121, 116, 101])
  · have hR := HR.out
    rw [if_neg (ne_of_beq_false a1), if_neg (ne_of_beq_false a2), if_neg (ne_of_beq_false a3)] at hR
    subst hR
    go_wp2_with (fail)
    exact bodyPost_ret (results_tmp rfl _ _ _) rfl ⟨rfl, rfl⟩
  · have hR := HR.out
    rw [if_neg (ne_of_beq_false a1), if_neg (ne_of_beq_false a2), if_pos (eq_of_beq a3)] at hR
    subst hR
    go_wp2_with (fail)
    exact bodyPost_ret (results_tmp rfl _ _ _) rfl ⟨rfl, rfl⟩
theorem log19 (n : Int) (hn : n < 2 ^ 63) (w : World) : Calls Tryz.prog 74 #[.int .i64 n] w fun e w' => e = .returned (.int .i64 (logF 64 n)) ∧ w' = w := by
  generalize hR : logF 64 n = R
  have HN : Hid (n < 2 ^ 63) := Lib.hid hn
  have hn64 : n < 2 ^ 64 := by omega
  clear hn
  go_enter Tryz.func74, Tryz.ntmps74
  go_wp2_with (fail)
  go_loopw [0, 3] (fun t v wr => ∃ (f : Nat) (m k : Int), t = .int .i64 m ∧ v = .int .i64 k ∧ Hid (m ≤ n ∧ m < 2 ^ f) ∧ f ≤ 64 ∧ 0 ≤ k ∧ k ≤ 64 - f ∧ Hid (k + logF f m = R) ∧ wr = w) (fun t _ _ => (intOf t).toNat)
  case atStart => exact ⟨64, n, 0, rfl, rfl, Lib.hid ⟨Int.le_refl _, hn64⟩, by omega, by omega, by omega, Lib.hid (by rw [Int.zero_add]; exact hR), rfl⟩
  case round =>
    obtain ⟨f, m, k, rfl, rfl, HM, hf, hk0, hk, he, rfl⟩ := hrel
    clear hR hn64
    cases a1 : decide (1 < m)
    · have hE := he.out
      have h0 : logF f m = 0 := by
        cases f with
        | zero => rfl
        | succ f => rw [logF, if_neg (of_decide_eq_false a1)]
      rw [h0, Int.add_zero] at hE
      subst hE
      go_wp2_with (fail)
      exact bodyPost_ret (results_tmp rfl _ _ _) rfl ⟨rfl, rfl⟩
    · have h1 := of_decide_eq_true a1
      obtain ⟨f, rfl⟩ : ∃ f', f = f' + 1 := by
        cases f with
        | zero => have := HM.out.2; exact absurd this (by omega)
        | succ f => exact ⟨f, rfl⟩
      have hE := he.out
      rw [logF, if_pos h1] at hE
      have HE := Lib.hid hE
      clear hE he
      have hm2 : Hid (m / 2 ≤ n ∧ m / 2 < 2 ^ f) := by
        obtain ⟨h1, h2⟩ := HM.out
        rw [Int.pow_succ] at h2
        exact Lib.hid ⟨by omega, by omega⟩
      have hw : Hid (wrap64 (m / 2) = m / 2) := Lib.hid (by have := HM.out.1; have := HN.out; unfold wrap64; omega)
      go_wp2_with (fail)
      rw [Int.tdiv_eq_ediv_of_nonneg (by omega : 0 ≤ m), hw.out]
      exact ⟨⟨f, m / 2, k + 1, rfl, rfl, hm2, by omega, by omega, by omega, Lib.hid (by rw [← HE.out]; omega), by first | rfl | trivial⟩, by simp only [intOf]; omega⟩
end Go.Proofs.YtpdkpkabdkefcaaGreatDoor
namespace Go.Proofs.YtpdkpkabdkefcaaGreatDoor
open Go.Sx Go.ChangeShapes Go.WideShapes Go.RowKit Go.Joins Go.Deep Go.Rp
theorem fewL_at {a : List Et} {i : Nat} (h : i < a.length) (d l : Int) : Et.fewL (a.drop i) d l = if l < 0 then l else Et.fewL (a.drop (i + 1)) d (a[i].few d l) := by
  rw [List.drop_eq_getElem_cons h, Et.fewL]
theorem fewL_neg (d l : Int) (hl : l < 0) : ∀ a : List Et, Et.fewL a d l = l
  | [] => rfl
  | x :: r => by rw [Et.fewL, if_pos hl]
theorem few_le : ∀ (x : Et) (d l : Int), -1 ≤ l → -1 ≤ x.few d l ∧ (x.few d l ≤ l ∨ x.few d l = -1) := by
  refine Et.ind fun o n s a ih d l hl => ?_
  rw [Et.few]
  split
  · omega
  · rename_i hc
    have key : ∀ (a : List Et), (∀ x ∈ a, ∀ d l, -1 ≤ l → -1 ≤ x.few d l ∧ (x.few d l ≤ l ∨ x.few d l = -1)) → ∀ d l : Int, -1 ≤ l → -1 ≤ Et.fewL a d l ∧ (Et.fewL a d l ≤ l ∨ Et.fewL a d l = -1) := by
      intro a
      induction a with
      | nil => intro _ d l hl; rw [Et.fewL]; omega
      | cons x r ihr =>
        intro hx d l hl
        rw [Et.fewL]
        split
        · omega
        · have h1 := hx x (by simp) d l hl
          have h2 := ihr (fun y hy => hx y (by simp [hy])) d (x.few d l) h1.1
          omega
    have := key a ih (d - 1) (l - (1 + (a.length : Int) + (s.length : Int) / 100)) (by omega)
    omega
set_option maxHeartbeats 4000000 in
theorem few17L : ∀ (x : Et) (v : Value) (d l : Int) (w : World) (K : Nat → Prop), ExAt w K x v → (∀ g, K g → g < w.heap.size) → d ≤ 1000000 → -1 ≤ l → l ≤ 1000000 →
    Calls Tryz.prog 48 #[v, .int .i64 d, .int .i64 l] w fun e w' => e = .returned (.int .i64 (x.few d l)) ∧ Below w.heap.size w w' := by
  refine Et.ind fun o n s a ih v d l w K h hK hd hl hl2 => ?_
  simp only [ExAt] at h
  obtain ⟨A, cap, rfl, hs, ⟨hal, hsl⟩, hr⟩ := h
  unfold lenMax at hal
  unfold lenMax at hsl
  have hR : (Et.mk o n s a).few d l = if d < 1 ∨ l - (1 + (a.length : Int) + (s.length : Int) / 100) < 0 then -1 else Et.fewL a (d - 1) (l - (1 + (a.length : Int) + (s.length : Int) / 100)) := by rw [Et.few]
  generalize (Et.mk o n s a).few d l = R at hR
  have HR := Lib.hid hR
  clear hR
  have b0 : Below w.heap.size w (w.alloc (.cells (exC o n s A a.length cap) 47)) := (Below.refl _ _).alloc (Nat.le_refl _) _
  have hw0 : (w.alloc (.cells (exC o n s A a.length cap) 47)).heap[w.heap.size]? = some (.cells (exC o n s A a.length cap) 47 (0, 0)) := heap_alloc_new w _
  have hs0 : (w.alloc (.cells (exC o n s A a.length cap) 47)).heap.size = w.heap.size + 1 := by simp
  obtain ⟨d0, d1, d2, d3⟩ := cell4 hw0
  dsimp only [exC] at b0 hw0 hs0 d0 d1 d2 d3
  go_enter Tryz.func48, Tryz.ntmps48
  cases u : decide (d < 1)
  rotate_left
  · have := of_decide_eq_true u
    obtain rfl : R = -1 := by rw [HR.out, if_pos (.inl this)]
    clear HR
    go_wp2_with (fail)
    exact bodyPost_ret (results_tmp rfl _ _ _) rfl ⟨rfl, b0⟩
  have hd1 := of_decide_eq_false u
  have hq : 0 ≤ (s.length : Int) / 100 ∧ (s.length : Int) / 100 ≤ 1000000000000000 := by omega
  obtain ⟨m0, hM⟩ : ∃ m0 : Int, m0 = l - (1 + (a.length : Int) + (s.length : Int) / 100) := ⟨_, rfl⟩
  rw [← hM] at HR
  cases u2 : decide (m0 < 0)
  rotate_left
  · have := of_decide_eq_true u2
    obtain rfl : R = -1 := by rw [HR.out, if_pos (.inr this)]
    clear HR
    go_wp2_with (fail)
    exact bodyPost_ret (results_tmp rfl _ _ _) rfl ⟨rfl, b0⟩
  have hl1 := of_decide_eq_false u2
  have hR : R = Et.fewL a (d - 1) m0 := by
    rw [HR.out, if_neg]
    rintro (h | h)
    · omega
    · omega
  clear HR
  have HR := Lib.hid hR
  clear hR
  go_wp2_with (fail)
  generalize w.alloc (.cells #[.int .i64 o, .int .i64 n, .string (tx s), .slice A a.length cap] 47) = W0 at b0 hw0 hs0
  go_loopw [2, 7] (fun q t wr => ∃ (i : Nat) (m : Int), t = .int .i64 i ∧ q = .int .i64 m ∧ i ≤ a.length ∧ -1 ≤ m ∧ m ≤ 1000000 ∧ Hid (R = Et.fewL (a.drop i) (d - 1) m) ∧ Below W0.heap.size W0 wr) (fun _ t _ => a.length - (intOf t).toNat)
  case atStart => exact ⟨0, m0, rfl, congrArg (Value.int .i64) hM.symm, by omega, by omega, by omega, HR, Below.refl _ _⟩
  case round =>
    obtain ⟨i, m, rfl, rfl, hi, hm0, hm1, he, hb⟩ := hrel
    clear HR u2 hM
    have c3 := (cell4 ((hb.block w.heap.size (by omega)).trans hw0)).2.2.2
    by_cases hlt : i < a.length
    · have u0 : decide ((i : Int) < (a.length : Int)) = true := decide_eq_true (by omega)
      cases u4 : decide (0 ≤ m)
      · have hmn := of_decide_eq_false u4
        have he1 := he.out
        rw [fewL_neg _ _ (by omega)] at he1
        subst he1
        clear he ih hr
        go_wp2_with (fail)
        exact bodyPost_ret (results_tmp rfl _ _ _) rfl ⟨rfl, b0.trans (hb.mono (by omega))⟩
      have hmp := of_decide_eq_true u4
      obtain ⟨g, off, rfl, hg, hrow⟩ := hr (by rintro rfl; simp at hlt)
      obtain ⟨C, hC, hc⟩ := ExRow.at_ a off i hlt hrow
      obtain ⟨o', n', s', A2, k2, cap2, hC'⟩ := hC.cells
      obtain rfl := Value.agg.inj hC'
      have hbw : Below w.heap.size w wr := b0.trans (hb.mono (by omega))
      have hgl := hK g hg
      have k0 := (hbw.cell (p := ⟨g, off + i * 4 + 0, none⟩) hgl).trans (hc 0 _ rfl)
      have k1 := (hbw.cell (p := ⟨g, off + i * 4 + 1, none⟩) hgl).trans (hc 1 _ rfl)
      have k2' := (hbw.cell (p := ⟨g, off + i * 4 + 2, none⟩) hgl).trans (hc 2 _ rfl)
      have k3 := (hbw.cell (p := ⟨g, off + i * 4 + 3, none⟩) hgl).trans (hc 3 _ rfl)
      rw [Nat.add_zero] at k0
      have hu := ih a[i] (List.getElem_mem hlt) _ (d - 1) m wr K (hC.below hbw hK) (fun g hg => Nat.lt_of_lt_of_le (hK g hg) hbw.size) (by omega) hm0 hm1
      have hpl := few_le a[i] (d - 1) m hm0
      have he1 := he.out
      rw [fewL_at hlt, if_neg (by omega)] at he1
      generalize a[i].few (d - 1) m = q at hu he1 hpl
      have HE := Lib.hid he1
      clear he1 he hc hC ih hrow hr
      go_wp2_with (fail)
      ((with_reducible refine hu.mono ?_); rintro e w2 ⟨rfl, hb2⟩)
      have hb3 : Below W0.heap.size W0 w2 := hb.trans (hb2.mono hb.size)
      have hi1 : (i : Int) + 1 ≤ 9223372036854775807 := by omega
      go_wp2_with (fail)
      go_roundw
      case rel => exact ⟨i + 1, q, by go_num, rfl, by omega, hpl.1, by omega, HE, hb3⟩
      case measure => simp [intOf]; omega
    · obtain rfl : i = a.length := by omega
      have he1 := he.out
      rw [List.drop_eq_nil_of_le (Nat.le_refl _), Et.fewL] at he1
      subst he1
      clear he ih hr
      have u0 : decide ((a.length : Int) < (a.length : Int)) = false := decide_eq_false (by omega)
      go_wp2_with (fail)
      exact bodyPost_ret (results_tmp rfl _ _ _) rfl ⟨rfl, b0.trans (hb.mono (by omega))⟩
end Go.Proofs.YtpdkpkabdkefcaaGreatDoor
