/- The reference's 'Put', 'New', 'Store', 'Same'. -/
import Derived.Test.YtcccfckefjjoiaaMemRef
import Derived.OwnWalk
import Derived.Laws.OwnMore
import Derived.Deep.AppendLies
namespace Go.Proofs.Ytcccfckefjjoiaa
open Go.RowKit Go.Mem

theorem cellInfo : (Try.prog.info? 42).map (fun i => (i.zero, i.size, i.bytes)) = some (some (.agg #[.int .u32 0, .int .u8 0]), 2, 8) := by kernel_rfl

/-- Cells, flat. -/
def encC (c : Cells) : List Value := c.flatMap fun p => [.int .u32 p.1, .int .u8 p.2]
theorem encC_len (c : Cells) : (encC c).length = c.length * 2 := by
  induction c with
  | nil => rfl
  | cons p r ih => simp only [encC, List.flatMap_cons, List.length_append, List.length_cons, List.length_nil] at ih ⊢; omega
theorem encC_snoc (c : Cells) (a b : Int) : encC (c ++ [(a, b)]) = encC c ++ [.int .u32 a, .int .u8 b] := by simp [encC]
theorem encC_at : ∀ (c : Cells) (i : Nat) (p : Int × Int), c[i]? = some p → (encC c)[i * 2]? = some (.int .u32 p.1) ∧ (encC c)[i * 2 + 1]? = some (.int .u8 p.2)
  | [], i, p, h => by simp at h
  | q :: r, 0, p, h => by
    simp at h
    subst h
    exact ⟨rfl, rfl⟩
  | q :: r, i + 1, p, h => by
    have ih := encC_at r i p (by simpa using h)
    have e1 : (i + 1) * 2 = i * 2 + 1 + 1 := by omega
    rw [e1]
    exact ih

theorem ClAt.of_own {w : World} {base : Nat} {A : Option Addr} {cap : Nat} {c : Cells} {e : TypeId} (h : w.ownsRow base e 2 (.slice A c.length cap) c.length (encC c)) : ClAt w w.heap.size A c := by
  intro hn
  rcases h.2 with ⟨hv, h0⟩ | ⟨g, cap', cur, hv, hb, hh, _, _, hs, ht⟩
  · exact absurd (List.eq_nil_of_length_eq_zero h0) hn
  · have hA : A = some ⟨g, 0, none⟩ := by injection hv
    subst hA
    refine ⟨g, 0, rfl, (Array.getElem?_eq_some_iff.1 hh).1, fun i p hp => ?_⟩
    obtain ⟨h1, h2⟩ := encC_at c i p hp
    have k1 := h.cells (g := g) rfl _ _ h1
    have k2 := h.cells (g := g) rfl _ _ h2
    have z : ∀ n, (⟨g, 0, none⟩ : Addr).add n = ⟨g, 0 + n, none⟩ := fun n => by unfold Addr.add; split <;> simp_all
    rw [z] at k1 k2
    exact ⟨k1, by rw [Nat.add_assoc]; exact k2⟩

theorem two_new (w : World) (t : TypeId) (x y : Value) : ∀ (j : Nat) (u : Value), [x, y][j]? = some u → (w.alloc (.cells #[x, y] t)).cell? ((⟨w.heap.size, 0, none⟩ : Addr).add j) = some u :=
  World.news_of_block (cs := #[x, y]) (t := t) (fr := (0, 0)) (heap_alloc_new w _)

/-- A cell is appended to cells of the call's own. -/
theorem app_cell (w0 : World) {ops : Array Oper} {rest : List Oper} {o : Oper} {a : Act} {Q : Exit → Act → World → Prop} (hgd : o.guard = none) (s x : Operand)
    (ho : o.op = .call { callee := .builtin .append, args := #[s, x], argTypes := #[22, 22] }) (base : Nat) (hbase : base ≤ w0.heap.size) (c : Cells) (pa pb : Int) (hlen : c.length ≤ 5000000000)
    (v : Value) (hs : a.eval s = v) (hown : w0.ownsRow base 42 2 v c.length (encC c)) (g : Nat) (hx : a.eval x = .slice (some ⟨g, 0, none⟩) 1 1) (hg : g = w0.heap.size)
    (h : ∀ v' w', w'.ownsRow base 42 2 v' (c ++ [(pa, pb)]).length (encC (c ++ [(pa, pb)])) → Below base w0 w' → wpList Try.prog ops Q rest (a.put o.dst v') w') :
    wpList Try.prog ops Q (o :: rest) a (w0.alloc (.cells #[.int .u32 pa, .int .u8 pb] 42)) := by
  subst hg
  obtain ⟨i0, hi0, hz0, hz1, hz2⟩ := info_parts cellInfo
  refine wpList_append_own _ hgd s x 22 ho base 42 i0 _ 2 8 Try.underlying22 hi0 hz0 hz1 hz2 rfl (by decide) v c.length (encC c) hs (hown.alloc _) ⟨w0.heap.size, 0, none⟩ 1 1 [.int .u32 pa, .int .u8 pb] hx rfl (two_new _ _ _ _)
    (fun u hu => by simp at hu; rcases hu with rfl | rfl <;> rfl) (by unfold maxLen; omega) (by omega) (by simp; omega) ?_
  intro v' w' hown' hgrow _
  refine h v' w' (by rw [encC_snoc]; simpa using hown') ?_
  exact ((Below.refl base w0).alloc hbase _).grown hgrow (by simp; omega) (fun j hj => (hown.lt _ hj).1)

set_option maxHeartbeats 2000000 in
theorem rPut_go (c : Cells) (A : Option Addr) (cap : Nat) (a b : Int) (D0 : Bool) (w : World) (h : ClAt w w.heap.size A c) (hl : c.length ≤ 4294967296) (hD : (b == 0) = D0) :
    Calls Try.prog 19 #[.slice A c.length cap, .int .u32 a, .int .u8 b] w fun e w' => ∃ v, e = .returned v ∧ w'.ownsRow w.heap.size 42 2 v (putG a b D0 c).length (encC (putG a b D0 c)) ∧ Below w.heap.size w w' := by
  go_enter Try.func19, Try.ntmps19
  go_wp2
  go_loopw [7, 8, 9] (fun o d k wr => ∃ (i : Nat) (c' : Cells) (D : Bool), i ≤ c.length ∧ k = .int .i64 i ∧ d = .bool D ∧ wr.ownsRow w.heap.size 42 2 o c'.length (encC c') ∧ Hid (c' ++ putG a b D (c.drop i) = putG a b D0 c) ∧ c'.length ≤ i + 1 ∧ (D = false → c'.length ≤ i) ∧ Below w.heap.size w wr) (fun _ _ k _ => c.length - (intOf k).toNat)
  case atStart => exact ⟨0, [], D0, by omega, rfl, rfl, World.ownsRow_nil _ _ _ _, Lib.hid (by simp), by simp, by simp, Below.refl _ _⟩
  case round =>
    obtain ⟨i, c', D, hi, rfl, rfl, hown, HP, hlen, hlen2, hbr⟩ := hrel
    have hbs := hbr.size
    have hc5 : c'.length ≤ 5000000000 := by omega
    by_cases hlt : i < c.length
    · obtain ⟨g, off, rfl, hg, h1, h2⟩ := (h.below hbr (Nat.le_refl _)).at_ hlt
      have HD := Lib.hid (List.drop_eq_getElem_cons hlt)
      generalize hp : c[i] = p at *
      obtain ⟨pa, pb⟩ := p
      simp only at h1 h2
      clear hp
      have HS : Hid (putG a b D (c.drop i) = if D = false ∧ a < pa then (a, b) :: (if pa = a then putG a b true (c.drop (i + 1)) else (pa, pb) :: putG a b true (c.drop (i + 1))) else if pa = a then putG a b D (c.drop (i + 1)) else (pa, pb) :: putG a b D (c.drop (i + 1))) := Lib.hid (by rw [HD.out, putG])
      have far : ∀ (w1 : World), Below w.heap.size wr w1 → w1.cell? ⟨g, off + i * 2, none⟩ = some (.int .u32 pa) ∧ w1.cell? ⟨g, off + i * 2 + 1, none⟩ = some (.int .u8 pb) := fun w1 hb1 =>
        ⟨(hb1.cell (p := ⟨g, off + i * 2, none⟩) hg).trans h1, (hb1.cell (p := ⟨g, off + i * 2 + 1, none⟩) hg).trans h2⟩
      have FAR := Lib.hid far
      clear far
      by_cases hap : D = false ∧ a < pa
      · obtain ⟨rfl, hap⟩ := hap
        have hpa : ¬ pa = a := by omega
        have HN : Hid (c' ++ [(a, b)] ++ [(pa, pb)] ++ putG a b true (c.drop (i + 1)) = putG a b D0 c) := Lib.hid (by rw [← HP.out, HS.out, if_pos ⟨rfl, hap⟩, if_neg hpa]; simp)
        clear HP HS HD
        have hl1 := hlen2 rfl
        clear hlen2
        have hc6 : (c' ++ [(a, b)]).length ≤ 5000000000 := by simp; omega
        go_wp2_with (first
          | (at_builtin; refine app_cell wr rfl _ _ rfl w.heap.size hbs c' a b hc5 _ rfl ?_ _ rfl rfl ?_; exact hown; intro v1 w1 hown1 hb1; have hbs1 := Nat.le_trans hbs hb1.size; obtain ⟨f1, f2⟩ := FAR.out w1 hb1)
          | (at_builtin; refine app_cell w1 rfl _ _ rfl w.heap.size hbs1 (c' ++ [(a, b)]) pa pb hc6 _ rfl ?_ _ rfl rfl ?_; exact hown1; intro v2 w2 hown2 hb2))
        go_roundw
        case rel => exact ⟨i + 1, _, true, by omega, by go_num, rfl, hown2, HN, by simp; omega, by simp, (hbr.trans hb1).trans hb2⟩
        case measure => simp [intOf]; omega
      · by_cases hpa : pa = a
        · have HN : Hid (c' ++ putG a b D (c.drop (i + 1)) = putG a b D0 c) := Lib.hid (by rw [← HP.out, HS.out, if_neg hap, if_pos hpa])
          clear HP HS HD
          have hnl : D = false → ¬ a < pa := fun e k => hap ⟨e, k⟩
          subst hpa
          cases D
          · go_wp2
            go_roundw
            case rel => exact ⟨i + 1, c', false, by omega, by go_num, rfl, hown, HN, by omega, by have := hlen2 rfl; intro _; omega, hbr⟩
            case measure => simp [intOf]; omega
          · go_wp2
            go_roundw
            case rel => exact ⟨i + 1, c', true, by omega, by go_num, rfl, hown, HN, by omega, by simp, hbr⟩
            case measure => simp [intOf]; omega
        · have HN : Hid (c' ++ [(pa, pb)] ++ putG a b D (c.drop (i + 1)) = putG a b D0 c) := Lib.hid (by rw [← HP.out, HS.out, if_neg hap, if_neg hpa]; simp)
          clear HP HS HD
          cases D
          · have hnl : ¬ a < pa := fun k => hap ⟨rfl, k⟩
            have hl1 := hlen2 rfl
            clear hlen2 hap
            go_wp2_with (at_builtin; refine app_cell wr rfl _ _ rfl w.heap.size hbs c' pa pb hc5 _ rfl ?_ _ rfl rfl ?_; exact hown; intro v1 w1 hown1 hb1)
            go_roundw
            case rel => exact ⟨i + 1, _, false, by omega, by go_num, rfl, hown1, HN, by simp; omega, by simp; omega, hbr.trans hb1⟩
            case measure => simp [intOf]; omega
          · clear hlen2 hap
            go_wp2_with (at_builtin; refine app_cell wr rfl _ _ rfl w.heap.size hbs c' pa pb hc5 _ rfl ?_ _ rfl rfl ?_; exact hown; intro v1 w1 hown1 hb1)
            go_roundw
            case rel => exact ⟨i + 1, _, true, by omega, by go_num, rfl, hown1, HN, by simp; omega, by simp, hbr.trans hb1⟩
            case measure => simp [intOf]; omega
    · have e : i = c.length := by omega
      subst e
      have HE : Hid (putG a b D0 c = c' ++ (if D then [] else [(a, b)])) := Lib.hid (by rw [← HP.out, List.drop_length]; rfl)
      clear HP
      cases D
      · go_wp2_with (at_builtin; refine app_cell wr rfl _ _ rfl w.heap.size hbs c' a b hc5 _ rfl ?_ _ rfl rfl ?_; exact hown; intro v1 w1 hown1 hb1)
        go_ret
        refine ⟨v1, rfl, ?_, hbr.trans hb1⟩
        rw [HE.out]
        exact hown1
      · go_wp2
        go_ret
        refine ⟨_, rfl, ?_, hbr⟩
        rw [HE.out]
        simpa using hown

end Go.Proofs.Ytcccfckefjjoiaa
