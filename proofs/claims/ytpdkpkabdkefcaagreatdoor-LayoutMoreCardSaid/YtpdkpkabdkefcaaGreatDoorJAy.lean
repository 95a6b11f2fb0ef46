/- For the seat: texts joined: LyY, LzB, LzC, LyO, LyQ, LyR, LyS. -/
import Derived.Test.YtpdkpkabdkefcaaGreatDoorJAx
import Derived.Test.YtpdkpkabdkefcaaGreatDoorJAs
import Derived.Maps.AppendAt
import Derived.Test.YtpdkpkabdkefcaaGreatDoorJAq
set_option maxRecDepth 100000
namespace Go.Proofs.YtpdkpkabdkefcaaGreatDoor
open Go.Sx Go.ChangeShapes Go.WideShapes Go.RowKit Go.Joins Go.Deep Go.Rp
set_option maxHeartbeats 4000000 in
theorem find22 (v : Int) (L : List Int) (hL : L.length ≤ 1000000) (A : Option Addr) (cap : Nat) (w : World) (hA : IAt w w.heap.size A L) :
    Calls Tryz.prog 40 #[.slice A L.length cap, .int .i64 v] w fun e w' => e = .returned (.int .i64 (idxI (valN v L))) ∧ Below w.heap.size w w' := by
  rw [valN_idx]
  generalize hR : idxF (fun x : Int => x == v) L = R
  have HR : Hid ((idxF (fun x : Int => x == v) (L.drop 0)).map (· + 0) = R) := Lib.hid (by rw [List.drop_zero, hR]; cases R <;> rfl)
  clear hR
  go_enter Tryz.func40, Tryz.ntmps40
  go_wp2_with (fail)
  go_loopw [5] (fun t wr => ∃ i : Nat, t = .int .i64 i ∧ i ≤ L.length ∧ Hid ((idxF (fun x : Int => x == v) (L.drop i)).map (· + i) = R) ∧ Below w.heap.size w wr) (fun t _ => L.length - (intOf t).toNat)
  case atStart => exact ⟨0, rfl, Nat.zero_le _, HR, Below.refl _ _⟩
  case round =>
    obtain ⟨i, rfl, hi, he, hb⟩ := hrel
    clear HR
    by_cases hlt : i < L.length
    · have u0 : decide ((i : Int) < (L.length : Int)) = true := decide_eq_true (by omega)
      have hY : (L[i] == v) = true → R = some i := idxF_yes hlt he.out
      have hN : (L[i] == v) = false → _ := idxF_no hlt he.out
      obtain ⟨g, off, rfl, hg, hc⟩ := hA.at_ hlt
      replace hc := (hb.cell (p := ⟨g, off + i, none⟩) hg).trans hc
      generalize L[i] = y at hY hN hc
      have HY := Lib.hid hY
      have HN := Lib.hid hN
      clear he hY hN
      cases hp : (y == v)
      · have hN := HN.out hp
        go_wp2_with (fail)
        first
          | exact ⟨⟨i + 1, by go_num, by omega, hN, hb⟩, by simp [intOf]; omega⟩
          | (go_roundw; case rel => exact ⟨i + 1, by go_num, by omega, hN, hb⟩; case measure => (simp [intOf]; omega))
      · have hY := HY.out hp
        subst hY
        go_wp2_with (fail)
        exact bodyPost_ret (results_tmp rfl _ _ _) rfl ⟨rfl, hb⟩
    · obtain rfl : i = L.length := by omega
      have u0 : decide ((L.length : Int) < (L.length : Int)) = false := decide_eq_false (by omega)
      have hE := he.out
      rw [List.drop_eq_nil_of_le (Nat.le_refl _)] at hE
      have hE2 : R = none := hE.symm
      subst hE2
      clear he hE
      go_wp2_with (fail)
      exact bodyPost_ret (results_tmp rfl _ _ _) rfl ⟨rfl, hb⟩
end Go.Proofs.YtpdkpkabdkefcaaGreatDoor
namespace Go.Proofs.YtpdkpkabdkefcaaGreatDoor
open Go.Sx Go.ChangeShapes Go.WideShapes Go.RowKit Go.Joins Go.Deep Go.Rp
section
variable {α : Type} {E : Ele α}
theorem app_rowG (w0 : World) (t ts : TypeId) {i0 : TypeInfo} {zv : Value} (hu : Tryz.prog.underlying ts = some (.slice t)) (hi0 : Tryz.prog.info? t = some i0) (hz0 : i0.zero = some zv) (hz1 : i0.size = E.z) (hz2 : i0.bytes ≤ 256) (hz3 : zv.cells.size = E.z)
    {ops : Array Oper} {rest : List Oper} {o : Oper} {a : Act} {Q : Exit → Act → World → Prop} (hgd : o.guard = none) (s x : Operand)
    (ho : o.op = .call { callee := .builtin .append, args := #[s, x], argTypes := #[ts, ts] }) (base : Nat) (hbase : base ≤ w0.heap.size) (l : List α) (y : α) (hlen : l.length ≤ 1000000)
    (v : Value) (hs : a.eval s = v) (hown : w0.ownsRow base t E.z v l.length (encR E l)) (g : Nat) (hx : a.eval x = .slice (some ⟨g, 0, none⟩) 1 1) (hg : g = w0.heap.size)
    (h : ∀ v' w', w'.ownsRow base t E.z v' (l ++ [y]).length (encR E (l ++ [y])) → Below base w0 w' → (∀ q, q < w0.heap.size → v.ownBlock ≠ some q → w'.heap[q]? = w0.heap[q]?) → (∀ q, q < w0.heap.size → v.ownBlock ≠ some q → v'.ownBlock ≠ some q) → wpList Tryz.prog ops Q rest (a.put o.dst v') w') :
    wpList Tryz.prog ops Q (o :: rest) a (w0.alloc (.cells (E.cells y) t)) := by
  subst hg
  have he : encR E [y] = (E.cells y).toList := by rw [encR_cons]; exact List.append_nil _
  refine wpList_append_own_at _ hgd s x ts ho base t i0 _ E.z i0.bytes hu hi0 hz0 hz1 rfl hz3 E.pos v l.length (encR E l) hs (hown.alloc _) ⟨w0.heap.size, 0, none⟩ 1 1 (encR E [y]) hx (encR_len E [y]) ?_
    (fun u hu => encR_one E hu) (by unfold maxLen; omega) (Nat.le_trans (Nat.mul_le_mul (show l.length + 1 ≤ 1000001 by omega) hz2) (by decide)) (by simp; omega) ?_
  · rw [he]
    exact World.news_of_block (cs := E.cells y) (t := t) (fr := (0, 0)) (heap_alloc_new w0 _)
  intro v' w' hown' hgrow _ hat
  refine h v' w' (by rw [encR_app, List.length_append]; exact hown') ?_ ?_ ?_
  · exact ((Below.refl base w0).alloc hbase _).grown hgrow (by simp; omega) (fun j hj => (hown.lt _ hj).1)
  · intro q hq hne
    rw [hgrow.block q (by simp; omega) (fun e => hne e.symm)]
    exact Below.heap_alloc w0 _ q hq
  · intro q hq hne e
    rcases hat with h1 | h1
    · exact hne (h1 ▸ e)
    · rw [h1] at e
      simp at e
      omega
end
def slE : Ele (Option Addr × Nat × Nat) where
  cells x := #[.slice x.1 x.2.1 x.2.2]
  z := 1
  len _ := rfl
  one x u hu := by simp at hu; subst hu; rfl
  pos := by decide
def PoolsAt (w : World) (B : Nat) (own : Option Nat) (xs : List (Option Addr × Nat × Nat)) (P : List (List Int)) : Prop :=
  xs.length = P.length ∧ ∀ (i : Nat) (p : List Int) (x : Option Addr × Nat × Nat), P[i]? = some p → xs[i]? = some x → x.2.1 = p.length ∧ (p ≠ [] → ∃ g off, x.1 = some ⟨g, off, none⟩ ∧ g < B ∧ own ≠ some g ∧ ∀ (j : Nat) (a : Int), p[j]? = some a → w.cell? ⟨g, off + j, none⟩ = some (.int .i64 a))
theorem PoolsAt.nil (w : World) (B : Nat) (own : Option Nat) : PoolsAt w B own [] [] := ⟨rfl, fun i p x h => by simp at h⟩
theorem PoolsAt.keep {w w' : World} {B B' : Nat} {own own' : Option Nat} {xs : List (Option Addr × Nat × Nat)} {P : List (List Int)} (h : PoolsAt w B own xs P) (hB : B ≤ B') (ho : ∀ g, g < B → own ≠ some g → own' ≠ some g) (hk : ∀ g, g < B → own ≠ some g → w'.heap[g]? = w.heap[g]?) : PoolsAt w' B' own' xs P := by
  refine ⟨h.1, fun i p x hp hx => ?_⟩
  obtain ⟨h1, h2⟩ := h.2 i p x hp hx
  refine ⟨h1, fun hn => ?_⟩
  obtain ⟨g, off, e, hg, hne, hc⟩ := h2 hn
  exact ⟨g, off, e, by omega, ho g hg hne, fun j v hj => (World.cell?_of_block (w := w) (w' := w') (a := ⟨g, off + j, none⟩) (hk g hg hne)).trans (hc j v hj)⟩
theorem PoolsAt.snoc {w : World} {B : Nat} {own : Option Nat} {xs : List (Option Addr × Nat × Nat)} {P : List (List Int)} (h : PoolsAt w B own xs P) {A : Option Addr} {c : Nat} {p : List Int} (hp : p ≠ [] → ∃ g off, A = some ⟨g, off, none⟩ ∧ g < B ∧ own ≠ some g ∧ ∀ (j : Nat) (a : Int), p[j]? = some a → w.cell? ⟨g, off + j, none⟩ = some (.int .i64 a)) : PoolsAt w B own (xs ++ [(A, p.length, c)]) (P ++ [p]) := by
  refine ⟨by simp [h.1], fun i q x hq hx => ?_⟩
  by_cases hi : i < P.length
  · rw [List.getElem?_append_left hi] at hq
    rw [List.getElem?_append_left (by rw [h.1]; exact hi)] at hx
    exact h.2 i q x hq hx
  · rw [List.getElem?_append_right (by omega)] at hq
    rw [List.getElem?_append_right (by rw [h.1]; omega), h.1] at hx
    obtain h0 : i - P.length = 0 := by
      have := (List.getElem?_eq_some_iff.1 hq).1
      simp at this; omega
    rw [h0] at hq hx
    simp at hq hx
    subst hq hx
    exact ⟨rfl, hp⟩
theorem pools_push {wr w2 : World} {bp : Nat} {vo v2 : Value} {xs : List (Option Addr × Nat × Nat)} {P : List (List Int)} {p : List Int} {Ap : Option Addr} {cp : Nat} (hps : PoolsAt wr bp vo.ownBlock xs P) (hbw : bp ≤ wr.heap.size) (hob : ∀ g, vo.ownBlock = some g → g < bp)
    (h2p : IAt wr wr.heap.size Ap p) (h3p : ∀ q o, Ap = some ⟨q, o, none⟩ → bp ≤ q) (hk2 : ∀ q, q < wr.heap.size → vo.ownBlock ≠ some q → w2.heap[q]? = wr.heap[q]?) (hn2 : ∀ q, q < wr.heap.size → vo.ownBlock ≠ some q → v2.ownBlock ≠ some q) (hz : wr.heap.size ≤ w2.heap.size) :
    PoolsAt w2 w2.heap.size v2.ownBlock (xs ++ [(Ap, p.length, cp)]) (P ++ [p]) := by
  have h1 : PoolsAt wr wr.heap.size vo.ownBlock xs P := hps.keep hbw (fun _ _ h => h) (fun _ _ _ => rfl)
  refine (h1.snoc (A := Ap) (c := cp) (p := p) fun hn => ?_).keep hz hn2 hk2
  obtain ⟨g, off, rfl, hg, hc⟩ := h2p hn
  exact ⟨g, off, rfl, hg, fun e => by have := hob g e; have := h3p g off rfl; omega, hc⟩
theorem own_blk {w w' : World} {base : Nat} {e : TypeId} {size : Nat} {v : Value} {n : Nat} {xs : List Value} (h : w.ownsRow base e size v n xs) (hk : ∀ g, v.ownBlock = some g → w'.heap[g]? = w.heap[g]?) : w'.ownsRow base e size v n xs := by
  refine ⟨h.1, h.2.imp id fun ⟨g, cap, cur, e1, hb, hh, rest⟩ => ⟨g, cap, cur, e1, hb, (hk g (by rw [e1]; rfl)).trans hh, rest⟩⟩
theorem slInfo : (Tryz.prog.info? 26).map (fun i => (i.zero, i.size, i.bytes)) = some (some (.slice none 0 0), 1, 24) := by kernel_rfl
theorem PoolsAt.plan {w : World} {base : Nat} {t : TypeId} {v : Value} {xs : List (Option Addr × Nat × Nat)} {P : List (List Int)} (h : PoolsAt w w.heap.size v.ownBlock xs P) (ho : w.ownsRow base t slE.z v xs.length (encR slE xs)) : ∃ A cap, v = .slice A P.length cap ∧ PlAt w w.heap.size A P ∧ ∀ q o, A = some ⟨q, o, none⟩ → base ≤ q := by
  obtain ⟨A, cap, rfl, _, hr, hb⟩ := own_row2 ho
  refine ⟨A, cap, by rw [h.1], fun hn => ?_, hb⟩
  obtain ⟨g, off, e, hg, hc⟩ := hr (by intro e0; subst e0; have := h.1; simp at this; exact hn (List.eq_nil_of_length_eq_zero this.symm))
  refine ⟨g, off, e, hg, fun i p hp => ?_⟩
  have hi := (List.getElem?_eq_some_iff.1 hp).1
  obtain ⟨x, hx⟩ : ∃ x, xs[i]? = some x := ⟨_, List.getElem?_eq_getElem (by rw [h.1]; exact hi)⟩
  obtain ⟨h1, h2⟩ := h.2 i p x hp hx
  obtain ⟨A1, n1, c1⟩ := x
  obtain rfl : n1 = p.length := h1
  refine ⟨A1, c1, hc i _ ?_, fun hn => ?_⟩
  · obtain ⟨hi2, hx2⟩ := List.getElem?_eq_some_iff.1 hx
    have := encR_get slE xs i 0 hi2 (by decide)
    rw [hx2] at this
    simpa [slE] using this
  · obtain ⟨g', off', e', hg', _, hc'⟩ := h2 hn
    exact ⟨g', off', e', hg', hc'⟩
end Go.Proofs.YtpdkpkabdkefcaaGreatDoor
namespace Go.Proofs.YtpdkpkabdkefcaaGreatDoor
open Go.Sx Go.ChangeShapes Go.WideShapes Go.RowKit Go.Joins Go.Deep Go.Rp
def PlanPost (n B : Nat) (e : Ending) (w' : World) : Prop :=
  ∃ (P : List (List Int)) (A : Option Addr) (cap : Nat), e = .returned (.slice A P.length cap) ∧ PlAt w' w'.heap.size A P ∧ P.length ≤ n + 1 ∧ (∀ p ∈ P, p.length ≤ n) ∧ ∀ q o, A = some ⟨q, o, none⟩ → B ≤ q
theorem mem_snoc {P : List (List Int)} {p : List Int} {n : Nat} (h : ∀ q ∈ P, q.length ≤ n) (hp : p.length ≤ n) : ∀ q ∈ P ++ [p], q.length ≤ n := by
  intro q hq
  rcases List.mem_append.1 hq with h1 | h1
  · exact h q h1
  · obtain rfl := List.mem_singleton.1 h1; exact hp
def PlanRel (B n : Nat) (vo vp t : Value) (wr w : World) : Prop := ∃ (i bp : Nat) (xs : List (Option Addr × Nat × Nat)) (P : List (List Int)) (p : List Int), t = .int .i64 i ∧ i ≤ n ∧ B ≤ bp ∧ bp ≤ wr.heap.size ∧ P.length ≤ i ∧ p.length ≤ i ∧ (∀ q ∈ P, q.length ≤ i) ∧
  wr.ownsRow B 26 slE.z vo xs.length (encR slE xs) ∧ (∀ g, vo.ownBlock = some g → g < bp) ∧ PoolsAt wr bp vo.ownBlock xs P ∧ wr.ownsRow bp 3 1 vp p.length (encI p) ∧ Below B w wr
section
variable {w wr w1 w2 : World} {n i bp : Nat} {xs : List (Option Addr × Nat × Nat)} {P : List (List Int)} {p : List Int} {vo vp v2 t : Value} {v : Int}
theorem keep_at (hlt : i < n) (hbp : w.heap.size ≤ bp) (hbw : bp ≤ wr.heap.size) (hPl : P.length ≤ i) (hpl : p.length ≤ i) (hPm : ∀ q ∈ P, q.length ≤ i) (ho : wr.ownsRow w.heap.size 26 slE.z vo xs.length (encR slE xs)) (hob : ∀ g, vo.ownBlock = some g → g < bp)
    (hps : PoolsAt wr bp vo.ownBlock xs P) (hop : wr.ownsRow bp 3 1 vp p.length (encI p)) (hb : Below w.heap.size w wr) (hb1 : Below wr.heap.size wr w1) (ht : t = .int .i64 ((i + 1 : Nat) : Int)) : PlanRel w.heap.size n vo vp t w1 w :=
  ⟨i + 1, bp, xs, P, p, ht, hlt, hbp, Nat.le_trans hbw hb1.size, by omega, by omega, fun q h => Nat.le_succ_of_le (hPm q h), own_below ho hb1, hob, hps.keep (Nat.le_refl _) (fun _ _ h => h) (fun g hg _ => hb1.block g (by omega)), own_below hop hb1, hb.trans (hb1.mono hb.size)⟩
theorem grow_at (hlt : i < n) (hbp : w.heap.size ≤ bp) (hbw : bp ≤ wr.heap.size) (hPl : P.length ≤ i) (hpl : p.length ≤ i) (hPm : ∀ q ∈ P, q.length ≤ i) (ho : wr.ownsRow w.heap.size 26 slE.z vo xs.length (encR slE xs)) (hob : ∀ g, vo.ownBlock = some g → g < bp)
    (hps : PoolsAt wr bp vo.ownBlock xs P) (hb : Below w.heap.size w wr) (hb1 : Below wr.heap.size wr w1) (hown2 : w2.ownsRow bp 3 1 v2 (p ++ [v]).length (encI (p ++ [v]))) (hb2 : Below bp w1 w2) (hz2 : w1.heap.size ≤ w2.heap.size) (ht : t = .int .i64 ((i + 1 : Nat) : Int)) : PlanRel w.heap.size n vo v2 t w2 w := by
  have hk : ∀ g, g < bp → w2.heap[g]? = wr.heap[g]? := fun g hg => (hb2.block g hg).trans (hb1.block g (by omega))
  have := hb1.size
  exact ⟨i + 1, bp, xs, P, p ++ [v], ht, hlt, hbp, by omega, by omega, by simp; omega, fun q h => Nat.le_succ_of_le (hPm q h), own_blk ho fun g hg => hk g (hob g hg), hob, hps.keep (Nat.le_refl _) (fun _ _ h => h) (fun g hg _ => hk g hg), hown2, hb.trans ((hb1.mono hb.size).trans (hb2.mono hbp))⟩
theorem push_at (hlt : i < n) (hbw : bp ≤ wr.heap.size) (hPl : P.length ≤ i) (hpl : p.length ≤ i) (hPm : ∀ q ∈ P, q.length ≤ i) (hob : ∀ g, vo.ownBlock = some g → g < bp) (hps : PoolsAt wr bp vo.ownBlock xs P) (hb : Below w.heap.size w wr) {Ap : Option Addr} {cp : Nat} (h2p : IAt wr wr.heap.size Ap p) (h3p : ∀ q o, Ap = some ⟨q, o, none⟩ → bp ≤ q)
    (hown2 : w2.ownsRow w.heap.size 26 slE.z v2 (xs ++ [(Ap, p.length, cp)]).length (encR slE (xs ++ [(Ap, p.length, cp)]))) (hb2 : Below w.heap.size wr w2) (hk2 : ∀ q, q < wr.heap.size → vo.ownBlock ≠ some q → w2.heap[q]? = wr.heap[q]?) (hn2 : ∀ q, q < wr.heap.size → vo.ownBlock ≠ some q → v2.ownBlock ≠ some q) (ht : t = .int .i64 ((i + 1 : Nat) : Int)) : PlanRel w.heap.size n v2 (.slice none 0 0) t w2 w := by
  have hz := hb2.size
  exact ⟨i + 1, w2.heap.size, _, P ++ [p], [], ht, hlt, Nat.le_trans hb.size hz, Nat.le_refl _, by simp; omega, by simp, mem_snoc (fun q h => Nat.le_succ_of_le (hPm q h)) (by omega), hown2, fun g hg => (hown2.lt g hg).2, pools_push hps hbw hob h2p h3p hk2 hn2 hz, World.ownsRow_nil _ _ _ _, hb.trans hb2⟩
end
set_option maxHeartbeats 16000000 in
theorem plan22 (L : List Lw) (hL : L.length ≤ 1000) (V : List Int) (_hV : V.length ≤ 1000000) (A AV : Option Addr) (cap cV : Nat) (w : World) (K : Nat → Prop) (hA : LsAt w K A L) (hK : ∀ g, K g → g < w.heap.size) (hAV : IAt w w.heap.size AV V) :
    Calls Tryz.prog 30 #[.slice A L.length cap, .slice AV V.length cV] w fun e w' => PlanPost L.length w.heap.size e w' ∧ Below w.heap.size w w' := by
  obtain ⟨sl, sl0, sl1, sl2, sl3⟩ := info_parts slInfo
  go_enter Tryz.func30, Tryz.ntmps30
  go_wp2_with (fail)
  go_loopw [5, 6, 7] (fun vo vp t wr => PlanRel w.heap.size L.length vo vp t wr w) (fun _ _ t _ => L.length - (intOf t).toNat)
  case atStart => exact ⟨0, w.heap.size, [], [], [], rfl, Nat.zero_le _, Nat.le_refl _, Nat.le_refl _, Nat.le_refl _, Nat.le_refl _, fun _ h => by simp at h, World.ownsRow_nil _ _ _ _, fun _ h => by simp [Value.ownBlock] at h, PoolsAt.nil _ _ _, World.ownsRow_nil _ _ _ _, Below.refl _ _⟩
  case round =>
    obtain ⟨i, bp, xs, P, p, rfl, hi, hbp, hbw, hPl, hpl, hPm, ho, hob, hps, hop, hb⟩ := hrel
    have hxl := hps.1
    by_cases hlt : i < L.length
    · have u0 : decide ((i : Int) < (L.length : Int)) = true := decide_eq_true (by omega)
      obtain ⟨g, off, o, n, s, A2, m, c, rfl, hgl, hok, hline⟩ := hA.line hK hlt
      have c1 : wr.cell? ⟨g, off + i * 19 + 1, none⟩ = some (.int .i64 L[i].k) := (hline wr hb).1 1 _ rfl
      generalize L[i] = y at c1
      clear hline hok
      cases h5 : (y.k == 5)
      · cases h2 : (y.k == 2)
        · go_wp2_with (fail)
          first
            | (go_roundw; case rel => exact keep_at hlt hbp hbw hPl hpl hPm ho hob hps hop hb (Below.refl _ _) (by go_num); case measure => (simp [intOf]; omega))
            | exact ⟨keep_at hlt hbp hbw hPl hpl hPm ho hob hps hop hb (Below.refl _ _) (by go_num), by simp [intOf]; omega⟩
        · obtain ⟨Ap, cp, rfl, h1p, h2p, h3p⟩ := own_ints hop
          by_cases hvl : i < V.length
          · have u1 : decide ((i : Int) < (V.length : Int)) = true := decide_eq_true (by omega)
            obtain ⟨gV, oV, rfl, hgV, cV⟩ := hAV.at_ hvl
            replace cV := (hb.cell (p := ⟨gV, oV + i, none⟩) hgV).trans cV
            generalize V[i] = v at cV
            have hvi : (i : Int) < (V.length : Int) := by omega
            have hfd := find22 v p (by omega) Ap cp wr h2p
            cases hv : valN v p with
            | none =>
              rw [hv] at hfd
              clear hv
              go_wp2_with (fail)
              ((with_reducible refine hfd.mono ?_); rintro e w1 ⟨rfl, hb1⟩)
              have hop1 := own_below hop hb1
              have hs1 := hb1.size
              go_wp2_with (first | (at_builtin; refine app_intG w1 rfl _ _ rfl bp (by omega) p v (by omega) _ rfl ?_ _ rfl rfl ?_; exact hop1; intro v2 w2 hown2 hb2 hk2 hz2 hn2) | fail)
              go_roundw
              case rel => exact grow_at hlt hbp hbw hPl hpl hPm ho hob hps hb hb1 hown2 hb2 hz2 (by go_num)
              case measure => (simp [intOf]; omega)
            | some k =>
              rw [hv] at hfd
              clear hv
              have hk0 : decide (((k : Nat) : Int) < 0) = false := decide_eq_false (by omega)
              dsimp only [idxI] at hfd
              go_wp2_with (fail)
              ((with_reducible refine hfd.mono ?_); rintro e w1 ⟨rfl, hb1⟩)
              go_wp2_with (fail)
              first
                | (go_roundw; case rel => exact keep_at hlt hbp hbw hPl hpl hPm ho hob hps hop hb hb1 (by go_num); case measure => (simp [intOf]; omega))
                | exact ⟨keep_at hlt hbp hbw hPl hpl hPm ho hob hps hop hb hb1 (by go_num), by simp [intOf]; omega⟩
          · have u1 : decide ((i : Int) < (V.length : Int)) = false := decide_eq_false (by omega)
            have u1n : decide (i < V.length) = false := decide_eq_false hvl
            have hfd := find22 0 p (by omega) Ap cp wr h2p
            cases hv : valN 0 p with
            | none =>
              rw [hv] at hfd
              clear hv
              go_wp2_with (fail)
              ((with_reducible refine hfd.mono ?_); rintro e w1 ⟨rfl, hb1⟩)
              have hop1 := own_below hop hb1
              have hs1 := hb1.size
              go_wp2_with (first | (at_builtin; refine app_intG w1 rfl _ _ rfl bp (by omega) p 0 (by omega) _ rfl ?_ _ rfl rfl ?_; exact hop1; intro v2 w2 hown2 hb2 hk2 hz2 hn2) | fail)
              go_roundw
              case rel => exact grow_at hlt hbp hbw hPl hpl hPm ho hob hps hb hb1 hown2 hb2 hz2 (by go_num)
              case measure => (simp [intOf]; omega)
            | some k =>
              rw [hv] at hfd
              clear hv
              have hk0 : decide (((k : Nat) : Int) < 0) = false := decide_eq_false (by omega)
              dsimp only [idxI] at hfd
              go_wp2_with (fail)
              ((with_reducible refine hfd.mono ?_); rintro e w1 ⟨rfl, hb1⟩)
              go_wp2_with (fail)
              first
                | (go_roundw; case rel => exact keep_at hlt hbp hbw hPl hpl hPm ho hob hps hop hb hb1 (by go_num); case measure => (simp [intOf]; omega))
                | exact ⟨keep_at hlt hbp hbw hPl hpl hPm ho hob hps hop hb hb1 (by go_num), by simp [intOf]; omega⟩
      · obtain ⟨Ap, cp, rfl, h1p, h2p, h3p⟩ := own_ints hop
        go_wp2_with (with_reducible show wpList _ _ _ (_ :: _) _ _; refine wpList_stop 25 rfl ?_)
        refine Lib.hid ?_
        refine app_rowG (E := slE) wr 26 29 Tryz.underlying29 sl0 sl1 (by rw [sl2]; rfl) (by rw [sl3]; decide) rfl rfl (.tmp 22) (.tmp 24) rfl w.heap.size hb.size xs (Ap, p.length, cp) (by omega) _ rfl ho _ rfl rfl ?_
        intro v2 w2 hown2 hb2 hk2 hn2
        go_wp2_with (fail)
        go_roundw
        case rel => exact push_at hlt hbw hPl hpl hPm hob hps hb h2p h3p hown2 hb2 hk2 hn2 (by go_num)
        case measure => (simp [intOf]; omega)
    · obtain rfl : i = L.length := by omega
      have u0 : decide ((L.length : Int) < (L.length : Int)) = false := decide_eq_false (by omega)
      obtain ⟨Ap, cp, rfl, h1p, h2p, h3p⟩ := own_ints hop
      go_wp2_with (with_reducible show wpList _ _ _ (_ :: _) _ _; refine wpList_stop 47 rfl ?_)
      refine Lib.hid ?_
      refine app_rowG (E := slE) wr 26 29 Tryz.underlying29 sl0 sl1 (by rw [sl2]; rfl) (by rw [sl3]; decide) rfl rfl (.tmp 44) (.tmp 46) rfl w.heap.size hb.size xs (Ap, p.length, cp) (by omega) _ rfl ho _ rfl rfl ?_
      intro v2 w2 hown2 hb2 hk2 hn2
      go_wp2_with (fail)
      obtain ⟨A3, c3, rfl, h4, h5⟩ := (pools_push (cp := cp) hps hbw hob h2p h3p hk2 hn2 hb2.size).plan hown2
      exact bodyPost_ret (results_tmp rfl _ _ _) rfl ⟨⟨P ++ [p], A3, c3, rfl, h4, by simp; omega, mem_snoc hPm hpl, h5⟩, hb.trans hb2⟩
end Go.Proofs.YtpdkpkabdkefcaaGreatDoor
namespace Go.Proofs.YtpdkpkabdkefcaaGreatDoor
open Go.Sx Go.ChangeShapes Go.WideShapes Go.RowKit Go.Joins Go.Deep Go.Rp
def DeskAt (w : World) (b : Nat) (L : List Lw) (P : List (List Int)) (V : List Int) (I : List Bool) (A : List Int) : Prop :=
  ∃ AL cL AP cP AV cV AI cI AA cA, w.heap[b]? = some (.cells #[.slice AL L.length cL, .slice AP P.length cP, .slice AV V.length cV, .slice AI I.length cI, .slice AA A.length cA] 62 (0, 0)) ∧ L.length ≤ cL ∧
    LsAt w (fun g => g < w.heap.size) AL L ∧ PlAt w w.heap.size AP P ∧ IAt w w.heap.size AV V ∧ RAt booE w w.heap.size AI I ∧ IAt w w.heap.size AA A
theorem DeskAt.below {w w' : World} {b : Nat} {L : List Lw} {P : List (List Int)} {V : List Int} {I : List Bool} {A : List Int} (h : DeskAt w b L P V I A) (hb : Below w.heap.size w w') : DeskAt w' b L P V I A := by
  obtain ⟨AL, cL, AP, cP, AV, cV, AI, cI, AA, cA, h0, hc, h1, h2, h3, h4, h5⟩ := h
  refine ⟨AL, cL, AP, cP, AV, cV, AI, cI, AA, cA, (hb.block b (Array.getElem?_eq_some_iff.1 h0).1).trans h0, hc, h1.keep (fun g hg => Nat.lt_of_lt_of_le hg hb.size) (fun g hg => hb.block g hg), (h2.below hb (Nat.le_refl _)).more hb.size, (h3.below hb (Nat.le_refl _)).more hb.size, (h4.below hb (Nat.le_refl _)).more hb.size, (h5.below hb (Nat.le_refl _)).more hb.size⟩
set_option maxHeartbeats 4000000 in
theorem own_l {L : List Lw} {P : List (List Int)} {V : List Int} {I : List Bool} {A : List Int} (hIl : I.length = L.length) {b i : Nat} (hi : i < L.length) {w : World} (hD : DeskAt w b L P V I A) :
    Calls Tryz.prog 65 #[.pointer (some ⟨b, 0, none⟩), .int .i64 i] w fun e w' => e = .returned (.bool (ownB L[i] (I.getD i false))) ∧ Below w.heap.size w w' := by
  have hDV := fun W h => DeskAt.below (w' := W) hD h
  obtain ⟨AL, cL, AP, cP, AV, cV, AI, cI, AA, cA, hblk, _, hLs, _, _, hIs, _⟩ := hD
  obtain ⟨g, off, o, n, s, A2, m, c, rfl, hgl, hok, hline⟩ := hLs.line (fun _ h => h) hi
  have hl0 := (hline w (Below.refl _ _)).1
  obtain ⟨gI, oI, rfl, hgI, hcI⟩ := hIs.at_ (show i < I.length by omega)
  have ci : ∀ W, Below w.heap.size w W → W.cell? ⟨gI, oI + i, none⟩ = some (.bool (I.getD i false)) := fun W hb => (hb.cell (p := ⟨gI, oI + i, none⟩) hgI).trans (by
    have h := hcI 0 (.bool I[i]) rfl
    rw [List.getD_eq_getElem?_getD, List.getElem?_eq_getElem (show i < I.length by omega)]
    simpa [booE] using h)
  have f0 : w.cell? ⟨b, 0, none⟩ = some (.slice (some ⟨g, off, none⟩) L.length cL) := by simp [World.cell?, hblk]
  have fI : ∀ W, Below w.heap.size w W → W.cell? ⟨b, 3, none⟩ = some (.slice (some ⟨gI, oI, none⟩) I.length cI) := fun W hb => (hb.cell (p := ⟨b, 3, none⟩) (Array.getElem?_eq_some_iff.1 hblk).1).trans (by simp [World.cell?, hblk])
  have hlI : i < I.length := by omega
  have hR : ownB L[i] (I.getD i false) = ((L[i].k == 1) && ((L[i].op == 35) && ((L[i].ic != 14) && !(I.getD i false)))) := rfl
  generalize ownB L[i] (I.getD i false) = R at hR
  generalize L[i] = y at hl0 hR
  generalize I.getD i false = it at ci hR
  have HR := Lib.hid hR
  clear hR
  obtain ⟨U, hV, bV, sV, hzV, hth⟩ := line_copy w y o n s A2 m c
  obtain ⟨_, q1, q2, q3, _, _, _, _, _, _⟩ := line_cells hzV
  have HCI := Lib.hid ci
  have HFI := Lib.hid fI
  have HDV := Lib.hid hDV
  clear ci fI hDV hline hok hcI hIs hLs hblk
  dsimp only [lwX, lwC] at hl0
  go_enter Tryz.func65, Tryz.ntmps65
  go_wp2_with (with_reducible show wpList _ _ _ (_ :: _) _ _; refine wpList_stop 12 rfl ?_)
  refine Lib.hid ?_
  refine wpList_load_row rfl 49 (.tmp 11) rfl g (off + i * 19) (by rfl) _ hl0 _ Tryz.underlying49 rfl (by kernel_rfl) ?_
  go_wp2_with (with_reducible show wpList _ _ _ (_ :: _) _ _; refine wpList_stop 5 rfl ?_)
  refine Lib.hid ?_
  refine wpList_allocW rfl (.cells lwZ 49) w.heap.size rfl (alloc_line _ _ _ _ _ _) ?_
  refine Hid.out ?_
  refine Lib.hid ?_
  go_wp2_with (with_reducible show wpList _ _ _ (_ :: _) _ _; refine wpList_stopS rfl ?_)
  refine Lib.hid ?_
  refine wpList_store_mid rfl 49 (.tmp 5) (.tmp 12) rfl w.heap.size 0 (lwX y o n s A2 m c) (by rfl) (by rfl) hth (by kernel_rfl) (lwC_one _ _ _ _ _ _ _) ?_; rw [← hV.out]
  refine Hid.out ?_
  have ci := HCI.out U bV
  have fI := HFI.out U bV
  cases a1 : (y.k == 1)
  · skip
    refine Lib.hid ?_
    go_wp2_with (fail)
    exact bodyPost_ret (results_tmp rfl _ _ _) rfl ⟨by rw [HR.out, a1]; rfl, bV⟩
  cases a2 : (y.op == 35)
  · skip
    refine Lib.hid ?_
    go_wp2_with (fail)
    exact bodyPost_ret (results_tmp rfl _ _ _) rfl ⟨by rw [HR.out, a1, a2]; rfl, bV⟩
  cases a3 : (y.ic != 14)
  · skip
    refine Lib.hid ?_
    go_wp2_with (fail)
    exact bodyPost_ret (results_tmp rfl _ _ _) rfl ⟨by rw [HR.out, a1, a2, a3]; rfl, bV⟩
  refine Lib.hid ?_
  go_wp2_with (fail)
  exact bodyPost_ret (results_tmp rfl _ _ _) rfl ⟨by rw [HR.out, a1, a2, a3]; rfl, bV⟩
set_option maxHeartbeats 4000000 in
theorem next_l {L : List Lw} {P : List (List Int)} {V : List Int} {I : List Bool} {A : List Int} (hIl : I.length = L.length) {b i : Nat} (hi : i < L.length)  (f : Int) {w : World} (hD : DeskAt w b L P V I A) :
    Calls Tryz.prog 34 #[.pointer (some ⟨b, 0, none⟩), .int .i64 i, .int .i64 f] w fun e w' => e = .returned (.int .i64 (nextY L[i] (I.getD i false) f)) ∧ Below w.heap.size w w' := by
  have hown := fun W hb => own_l hIl hi (w := W) (DeskAt.below (w' := W) hD hb)
  have hDV := fun W h => DeskAt.below (w' := W) hD h
  obtain ⟨AL, cL, AP, cP, AV, cV, AI, cI, AA, cA, hblk, _, hLs, _, _, hIs, _⟩ := hD
  obtain ⟨g, off, o, n, s, A2, m, c, rfl, hgl, hok, hline⟩ := hLs.line (fun _ h => h) hi
  have hl0 := (hline w (Below.refl _ _)).1
  obtain ⟨gI, oI, rfl, hgI, hcI⟩ := hIs.at_ (show i < I.length by omega)
  have ci : ∀ W, Below w.heap.size w W → W.cell? ⟨gI, oI + i, none⟩ = some (.bool (I.getD i false)) := fun W hb => (hb.cell (p := ⟨gI, oI + i, none⟩) hgI).trans (by
    have h := hcI 0 (.bool I[i]) rfl
    rw [List.getD_eq_getElem?_getD, List.getElem?_eq_getElem (show i < I.length by omega)]
    simpa [booE] using h)
  have f0 : w.cell? ⟨b, 0, none⟩ = some (.slice (some ⟨g, off, none⟩) L.length cL) := by simp [World.cell?, hblk]
  have fI : ∀ W, Below w.heap.size w W → W.cell? ⟨b, 3, none⟩ = some (.slice (some ⟨gI, oI, none⟩) I.length cI) := fun W hb => (hb.cell (p := ⟨b, 3, none⟩) (Array.getElem?_eq_some_iff.1 hblk).1).trans (by simp [World.cell?, hblk])
  have hlI : i < I.length := by omega
  have hR : nextY L[i] (I.getD i false) f = if (f = 0 ∧ cbB L[i] = true) ∨ (f = 1 ∧ ownB L[i] (I.getD i false) = true) then 2 else if f = 0 then 1 else f := rfl
  have hcb : cbB L[i] = ((L[i].k == 1) && ((L[i].op == 37) || (L[i].op == 38))) := rfl
  generalize nextY L[i] (I.getD i false) f = R at hR
  generalize ownB L[i] (I.getD i false) = ow at hR hown
  generalize cbB L[i] = cb at hR hcb
  generalize L[i] = y at hl0 hcb
  have HR := Lib.hid hR
  have HC := Lib.hid hcb
  have HO := Lib.hid hown
  clear hR hcb hown
  generalize I.getD i false = it at ci
  obtain ⟨U, hV, bV, sV, hzV, hth⟩ := line_copy w y o n s A2 m c
  obtain ⟨_, q1, q2, q3, _, _, _, _, _, _⟩ := line_cells hzV
  have HCI := Lib.hid ci
  have HFI := Lib.hid fI
  have HDV := Lib.hid hDV
  clear ci fI hDV hline hok hcI hIs hLs hblk
  dsimp only [lwX, lwC] at hl0
  go_enter Tryz.func34, Tryz.ntmps34
  go_wp2_with (with_reducible show wpList _ _ _ (_ :: _) _ _; refine wpList_stop 15 rfl ?_)
  refine Lib.hid ?_
  refine wpList_load_row rfl 49 (.tmp 14) rfl g (off + i * 19) (by rfl) _ hl0 _ Tryz.underlying49 rfl (by kernel_rfl) ?_
  go_wp2_with (with_reducible show wpList _ _ _ (_ :: _) _ _; refine wpList_stop 7 rfl ?_)
  refine Lib.hid ?_
  refine wpList_allocW rfl (.cells lwZ 49) w.heap.size rfl (alloc_line _ _ _ _ _ _) ?_
  refine Hid.out ?_
  refine Lib.hid ?_
  go_wp2_with (with_reducible show wpList _ _ _ (_ :: _) _ _; refine wpList_stopS rfl ?_)
  refine Lib.hid ?_
  refine wpList_store_mid rfl 49 (.tmp 7) (.tmp 15) rfl w.heap.size 0 (lwX y o n s A2 m c) (by rfl) (by rfl) hth (by kernel_rfl) (lwC_one _ _ _ _ _ _ _) ?_; rw [← hV.out]
  refine Hid.out ?_
  cases a1 : (y.k == 1)
  · skip
    have hcb : cb = false := by rw [HC.out, a1]; rfl
    subst hcb
    cases f0 : (f == 0)
    · skip
      have n0 : f ≠ 0 := ne_of_beq_false f0
      cases f1 : (f == 1)
      · skip
        have n1 : f ≠ 1 := ne_of_beq_false f1
        refine Lib.hid ?_
        have hF : R = f := by rw [HR.out]; rw [if_neg (by simp [n0, n1]), if_neg n0]
        subst hF
        go_wp2_with (fail)
        exact bodyPost_ret (results_tmp rfl _ _ _) rfl ⟨rfl, bV⟩
      · skip
        have E1 : Hid (f = 1) := Lib.hid (eq_of_beq f1)
        refine Lib.hid ?_
        go_wp2_with (fail)
        ((with_reducible refine (HO.out U bV).mono ?_); rintro e w5 ⟨rfl, hb5⟩)
        have b5 := bV.trans (hb5.mono bV.size)
        cases ow
        · skip
          have hF : R = f := by rw [HR.out]; rw [if_neg (by simp [n0]), if_neg n0]
          subst hF
          go_wp2_with (fail)
          exact bodyPost_ret (results_tmp rfl _ _ _) rfl ⟨rfl, b5⟩
        · skip
          have hF : R = 2 := by rw [HR.out]; rw [if_pos (.inr ⟨E1.out, rfl⟩)]
          subst hF
          go_wp2_with (fail)
          exact bodyPost_ret (results_tmp rfl _ _ _) rfl ⟨rfl, b5⟩
    · skip
      have E0 : Hid (f = 0) := Lib.hid (eq_of_beq f0)
      have f1 : (f == 1) = false := by rw [E0.out]; decide
      refine Lib.hid ?_
      have hF : R = 1 := by rw [HR.out]; rw [if_neg (by simp [E0.out]), if_pos E0.out]
      subst hF
      go_wp2_with (fail)
      exact bodyPost_ret (results_tmp rfl _ _ _) rfl ⟨rfl, bV⟩
  cases a2 : (y.op == 37)
  rotate_left
  · skip
    have hcb : cb = true := by rw [HC.out, a1, a2]; rfl
    subst hcb
    cases f0 : (f == 0)
    · skip
      have n0 : f ≠ 0 := ne_of_beq_false f0
      cases f1 : (f == 1)
      · skip
        have n1 : f ≠ 1 := ne_of_beq_false f1
        refine Lib.hid ?_
        have hF : R = f := by rw [HR.out]; rw [if_neg (by simp [n0, n1]), if_neg n0]
        subst hF
        go_wp2_with (fail)
        exact bodyPost_ret (results_tmp rfl _ _ _) rfl ⟨rfl, bV⟩
      · skip
        have E1 : Hid (f = 1) := Lib.hid (eq_of_beq f1)
        refine Lib.hid ?_
        go_wp2_with (fail)
        ((with_reducible refine (HO.out U bV).mono ?_); rintro e w5 ⟨rfl, hb5⟩)
        have b5 := bV.trans (hb5.mono bV.size)
        cases ow
        · skip
          have hF : R = f := by rw [HR.out]; rw [if_neg (by simp [n0]), if_neg n0]
          subst hF
          go_wp2_with (fail)
          exact bodyPost_ret (results_tmp rfl _ _ _) rfl ⟨rfl, b5⟩
        · skip
          have hF : R = 2 := by rw [HR.out]; rw [if_pos (.inr ⟨E1.out, rfl⟩)]
          subst hF
          go_wp2_with (fail)
          exact bodyPost_ret (results_tmp rfl _ _ _) rfl ⟨rfl, b5⟩
    · skip
      have E0 : Hid (f = 0) := Lib.hid (eq_of_beq f0)
      have f1 : (f == 1) = false := by rw [E0.out]; decide
      refine Lib.hid ?_
      have hF : R = 2 := by rw [HR.out]; rw [if_pos (.inl ⟨E0.out, rfl⟩)]
      subst hF
      go_wp2_with (fail)
      exact bodyPost_ret (results_tmp rfl _ _ _) rfl ⟨rfl, bV⟩
  cases a3 : (y.op == 38)
  · skip
    have hcb : cb = false := by rw [HC.out, a1, a2, a3]; rfl
    subst hcb
    cases f0 : (f == 0)
    · skip
      have n0 : f ≠ 0 := ne_of_beq_false f0
      cases f1 : (f == 1)
      · skip
        have n1 : f ≠ 1 := ne_of_beq_false f1
        refine Lib.hid ?_
        have hF : R = f := by rw [HR.out]; rw [if_neg (by simp [n0, n1]), if_neg n0]
        subst hF
        go_wp2_with (fail)
        exact bodyPost_ret (results_tmp rfl _ _ _) rfl ⟨rfl, bV⟩
      · skip
        have E1 : Hid (f = 1) := Lib.hid (eq_of_beq f1)
        refine Lib.hid ?_
        go_wp2_with (fail)
        ((with_reducible refine (HO.out U bV).mono ?_); rintro e w5 ⟨rfl, hb5⟩)
        have b5 := bV.trans (hb5.mono bV.size)
        cases ow
        · skip
          have hF : R = f := by rw [HR.out]; rw [if_neg (by simp [n0]), if_neg n0]
          subst hF
          go_wp2_with (fail)
          exact bodyPost_ret (results_tmp rfl _ _ _) rfl ⟨rfl, b5⟩
        · skip
          have hF : R = 2 := by rw [HR.out]; rw [if_pos (.inr ⟨E1.out, rfl⟩)]
          subst hF
          go_wp2_with (fail)
          exact bodyPost_ret (results_tmp rfl _ _ _) rfl ⟨rfl, b5⟩
    · skip
      have E0 : Hid (f = 0) := Lib.hid (eq_of_beq f0)
      have f1 : (f == 1) = false := by rw [E0.out]; decide
      refine Lib.hid ?_
      have hF : R = 1 := by rw [HR.out]; rw [if_neg (by simp [E0.out]), if_pos E0.out]
      subst hF
      go_wp2_with (fail)
      exact bodyPost_ret (results_tmp rfl _ _ _) rfl ⟨rfl, bV⟩
  · skip
    have hcb : cb = true := by rw [HC.out, a1, a2, a3]; rfl
    subst hcb
    cases f0 : (f == 0)
    · skip
      have n0 : f ≠ 0 := ne_of_beq_false f0
      cases f1 : (f == 1)
      · skip
        have n1 : f ≠ 1 := ne_of_beq_false f1
        refine Lib.hid ?_
        have hF : R = f := by rw [HR.out]; rw [if_neg (by simp [n0, n1]), if_neg n0]
        subst hF
        go_wp2_with (fail)
        exact bodyPost_ret (results_tmp rfl _ _ _) rfl ⟨rfl, bV⟩
      · skip
        have E1 : Hid (f = 1) := Lib.hid (eq_of_beq f1)
        refine Lib.hid ?_
        go_wp2_with (fail)
        ((with_reducible refine (HO.out U bV).mono ?_); rintro e w5 ⟨rfl, hb5⟩)
        have b5 := bV.trans (hb5.mono bV.size)
        cases ow
        · skip
          have hF : R = f := by rw [HR.out]; rw [if_neg (by simp [n0]), if_neg n0]
          subst hF
          go_wp2_with (fail)
          exact bodyPost_ret (results_tmp rfl _ _ _) rfl ⟨rfl, b5⟩
        · skip
          have hF : R = 2 := by rw [HR.out]; rw [if_pos (.inr ⟨E1.out, rfl⟩)]
          subst hF
          go_wp2_with (fail)
          exact bodyPost_ret (results_tmp rfl _ _ _) rfl ⟨rfl, b5⟩
    · skip
      have E0 : Hid (f = 0) := Lib.hid (eq_of_beq f0)
      have f1 : (f == 1) = false := by rw [E0.out]; decide
      refine Lib.hid ?_
      have hF : R = 2 := by rw [HR.out]; rw [if_pos (.inl ⟨E0.out, rfl⟩)]
      subst hF
      go_wp2_with (fail)
      exact bodyPost_ret (results_tmp rfl _ _ _) rfl ⟨rfl, bV⟩
end Go.Proofs.YtpdkpkabdkefcaaGreatDoor
namespace Go.Proofs.YtpdkpkabdkefcaaGreatDoor
open Go.Sx Go.ChangeShapes Go.WideShapes Go.RowKit Go.Joins Go.Deep Go.Rp
set_option maxHeartbeats 4000000 in
theorem fits_d {L : List Lw} {P : List (List Int)} {V : List Int} {I : List Bool} {A : List Int} (hIl : I.length = L.length) {b i : Nat} (hi : i < L.length)  (f of : Int) {w : World} (hD : DeskAt w b L P V I A) (hw : Laid w) :
    Calls Tryz.prog 33 #[.pointer (some ⟨b, 0, none⟩), .int .i64 i, .int .i64 f, .int .i64 of] w fun e w' => e = .returned (.bool (fitY L[i] (I.getD i false) f of)) ∧ Below w.heap.size w w' := by
  have hown := fun W hb => own_l hIl hi (w := W) (DeskAt.below (w' := W) hD hb)
  have hlw := fun W (hb : Below w.heap.size w W) => laid_lw hw hb
  have hDV := fun W h => DeskAt.below (w' := W) hD h
  obtain ⟨AL, cL, AP, cP, AV, cV, AI, cI, AA, cA, hblk, _, hLs, _, _, hIs, _⟩ := hD
  obtain ⟨g, off, o, n, s, A2, m, c, rfl, hgl, hok, hline⟩ := hLs.line (fun _ h => h) hi
  have hl0 := (hline w (Below.refl _ _)).1
  obtain ⟨gI, oI, rfl, hgI, hcI⟩ := hIs.at_ (show i < I.length by omega)
  have ci : ∀ W, Below w.heap.size w W → W.cell? ⟨gI, oI + i, none⟩ = some (.bool (I.getD i false)) := fun W hb => (hb.cell (p := ⟨gI, oI + i, none⟩) hgI).trans (by
    have h := hcI 0 (.bool I[i]) rfl
    rw [List.getD_eq_getElem?_getD, List.getElem?_eq_getElem (show i < I.length by omega)]
    simpa [booE] using h)
  have f0 : w.cell? ⟨b, 0, none⟩ = some (.slice (some ⟨g, off, none⟩) L.length cL) := by simp [World.cell?, hblk]
  have fI : ∀ W, Below w.heap.size w W → W.cell? ⟨b, 3, none⟩ = some (.slice (some ⟨gI, oI, none⟩) I.length cI) := fun W hb => (hb.cell (p := ⟨b, 3, none⟩) (Array.getElem?_eq_some_iff.1 hblk).1).trans (by simp [World.cell?, hblk])
  have hlI : i < I.length := by omega
  have hR : fitY L[i] (I.getD i false) f of = if placeB L[i] = true ∧ f = 0 then decide (0 ≤ of ∧ of ≤ 1020 ∧ of % 4 = 0) else if placeB L[i] = true then decide (-4095 ≤ of ∧ of ≤ 4095) else if L[i].op = 36 ∨ f = 2 then fitK 4 of else if L[i].op ≠ 35 then fitK 5 of else fitK ((if ownB L[i] (I.getD i false) then 1 else 2) + (if f = 1 then 2 else 0)) of := rfl
  generalize fitY L[i] (I.getD i false) f of = R at hR
  generalize ownB L[i] (I.getD i false) = ow at hR hown
  have hpl := fun o n s A2 m c => place_l L[i] (.int .i64 o) (.int .i64 n) (.string (tx s)) (.slice A2 m c)
  generalize placeB L[i] = pb at hR hpl
  generalize L[i] = y at hl0 hR hpl
  have HR := Lib.hid hR
  have HO := Lib.hid hown
  have HP := Lib.hid hpl
  have HW := Lib.hid hlw
  have hb3 : bits BinOp.and IntKind.i64 of 3 = of % 4 := and_low of 2 (by decide)
  clear hR hown hpl hlw hw
  generalize I.getD i false = it at ci
  obtain ⟨U, hV, bV, sV, hzV, hth⟩ := line_copy w y o n s A2 m c
  obtain ⟨_, q1, q2, q3, _, _, _, _, _, _⟩ := line_cells hzV
  have HCI := Lib.hid ci
  have HFI := Lib.hid fI
  have HDV := Lib.hid hDV
  clear ci fI hDV hline hok hcI hIs hLs hblk
  dsimp only [lwX, lwC] at hl0
  go_enter Tryz.func33, Tryz.ntmps33
  go_wp2_with (with_reducible show wpList _ _ _ (_ :: _) _ _; refine wpList_stop 17 rfl ?_)
  refine Lib.hid ?_
  refine wpList_load_row rfl 49 (.tmp 16) rfl g (off + i * 19) (by rfl) _ hl0 _ Tryz.underlying49 rfl (by kernel_rfl) ?_
  go_wp2_with (with_reducible show wpList _ _ _ (_ :: _) _ _; refine wpList_stop 9 rfl ?_)
  refine Lib.hid ?_
  refine wpList_allocW rfl (.cells lwZ 49) w.heap.size rfl (alloc_line _ _ _ _ _ _) ?_
  refine Hid.out ?_
  refine Lib.hid ?_
  go_wp2_with (with_reducible show wpList _ _ _ (_ :: _) _ _; refine wpList_stopS rfl ?_)
  refine Lib.hid ?_
  refine wpList_store_mid rfl 49 (.tmp 9) (.tmp 17) rfl w.heap.size 0 (lwX y o n s A2 m c) (by rfl) (by rfl) hth (by kernel_rfl) (lwC_one _ _ _ _ _ _ _) ?_; rw [← hV.out]
  refine Hid.out ?_
  refine Lib.hid ?_
  go_wp2_with (with_reducible show wpList _ _ _ (_ :: _) _ _; refine wpList_stop 19 rfl ?_)
  refine Lib.hid ?_
  refine wpList_load_blk rfl 49 (.tmp 9) rfl w.heap.size (by rfl) _ hzV _ Tryz.underlying49 rfl (by kernel_rfl) ?_
  go_wp2_with (fail)
  ((with_reducible refine (HP.out o n s A2 m c U).mono ?_); rintro e w5 ⟨rfl, hb5⟩)
  have b5 := bV.trans (hb5.mono bV.size)
  have hz5 := (hb5.block w.heap.size (by omega)).trans hzV
  obtain ⟨_, p1, p2, _⟩ := line_cells hz5
  cases pb
  · skip
    go_wp2_with (with_reducible show wpList _ _ _ (_ :: _) _ _; refine wpList_stop 37 rfl ?_)
    refine Lib.hid ?_
    refine wpList_load_blk rfl 49 (.tmp 9) rfl w.heap.size (by rfl) _ hz5 _ Tryz.underlying49 rfl (by kernel_rfl) ?_
    go_wp2_with (fail)
    ((with_reducible refine (HP.out o n s A2 m c w5).mono ?_); rintro e w6 ⟨rfl, hb6⟩)
    have b6 := b5.trans (hb6.mono b5.size)
    have hz6 := (hb6.block w.heap.size (Array.getElem?_eq_some_iff.1 hz5).1).trans hz5
    obtain ⟨_, r1, r2, _⟩ := line_cells hz6
    cases o36 : (y.op == 36)
    rotate_left
    · skip
      have hF : R = fitK 4 of := by rw [HR.out, if_neg (by simp), if_neg (by simp), if_pos (.inl (eq_of_beq o36))]
      clear HR
      have hk := fits_l4 of w6 (HW.out w6 b6)
      rw [← hF] at hk
      clear hF
      go_wp2_with (fail)
      ((with_reducible refine hk.mono ?_); rintro e w8 ⟨rfl, hw8⟩); rw [hw8]
      go_wp2_with (fail)
      exact bodyPost_ret (results_tmp rfl _ _ _) rfl ⟨rfl, b6⟩
    cases f2 : (f == 2)
    rotate_left
    · have E2 : Hid (f = 2) := Lib.hid (eq_of_beq f2)
      have hF : R = fitK 4 of := by rw [HR.out, if_neg (by simp), if_neg (by simp), if_pos (.inr E2.out)]
      clear HR
      have hk := fits_l4 of w6 (HW.out w6 b6)
      rw [← hF] at hk
      clear hF
      go_wp2_with (fail)
      ((with_reducible refine hk.mono ?_); rintro e w8 ⟨rfl, hw8⟩); rw [hw8]
      go_wp2_with (fail)
      exact bodyPost_ret (results_tmp rfl _ _ _) rfl ⟨rfl, b6⟩
    have hn : ¬ (y.op = 36 ∨ f = 2) := fun h => h.elim (ne_of_beq_false o36) (ne_of_beq_false f2)
    have HN := Lib.hid hn
    clear hn
    cases o35 : (y.op == 35)
    · have o35' : (y.op != 35) = true := by simpa using ne_of_beq_false o35
      have hF : R = fitK 5 of := by rw [HR.out, if_neg (by simp), if_neg (by simp), if_neg HN.out, if_pos (ne_of_beq_false o35)]
      clear HR
      have hk := fits_l5 of w6 (HW.out w6 b6)
      rw [← hF] at hk
      clear hF
      go_wp2_with (fail)
      ((with_reducible refine hk.mono ?_); rintro e w8 ⟨rfl, hw8⟩); rw [hw8]
      go_wp2_with (fail)
      exact bodyPost_ret (results_tmp rfl _ _ _) rfl ⟨rfl, b6⟩
    have o35' : (y.op != 35) = false := by simpa using eq_of_beq o35
    go_wp2_with (fail)
    ((with_reducible refine (HO.out w6 b6).mono ?_); rintro e w7 ⟨rfl, hb7⟩)
    have b7 := b6.trans (hb7.mono b6.size)
    cases ow
    · skip
      cases f1 : (f == 1)
      · skip
        have hF : R = fitK 2 of := by rw [HR.out, if_neg (by simp), if_neg (by simp), if_neg HN.out, if_neg (fun h => h (eq_of_beq o35)), if_neg (ne_of_beq_false f1)]; rfl -- ]
        clear HR
        have hk := fits_l2 of w7 (HW.out w7 b7)
        rw [← hF] at hk
        clear hF
        go_wp2_with (fail)
        ((with_reducible refine hk.mono ?_); rintro e w8 ⟨rfl, hw8⟩); rw [hw8]
        go_wp2_with (fail)
        exact bodyPost_ret (results_tmp rfl _ _ _) rfl ⟨rfl, b7⟩
      · have E1 : Hid (f = 1) := Lib.hid (eq_of_beq f1)
        have hF : R = fitK 4 of := by rw [HR.out, if_neg (by simp), if_neg (by simp), if_neg HN.out, if_neg (fun h => h (eq_of_beq o35)), if_pos E1.out]; rfl -- ]
        clear HR
        have hk := fits_l4 of w7 (HW.out w7 b7)
        rw [← hF] at hk
        clear hF
        go_wp2_with (fail)
        ((with_reducible refine hk.mono ?_); rintro e w8 ⟨rfl, hw8⟩); rw [hw8]
        go_wp2_with (fail)
        exact bodyPost_ret (results_tmp rfl _ _ _) rfl ⟨rfl, b7⟩
    · skip
      cases f1 : (f == 1)
      · skip
        have hF : R = fitK 1 of := by rw [HR.out, if_neg (by simp), if_neg (by simp), if_neg HN.out, if_neg (fun h => h (eq_of_beq o35)), if_neg (ne_of_beq_false f1)]; rfl -- ]
        clear HR
        have hk := fits_l1 of w7 (HW.out w7 b7)
        rw [← hF] at hk
        clear hF
        go_wp2_with (fail)
        ((with_reducible refine hk.mono ?_); rintro e w8 ⟨rfl, hw8⟩); rw [hw8]
        go_wp2_with (fail)
        exact bodyPost_ret (results_tmp rfl _ _ _) rfl ⟨rfl, b7⟩
      · have E1 : Hid (f = 1) := Lib.hid (eq_of_beq f1)
        have hF : R = fitK 3 of := by rw [HR.out, if_neg (by simp), if_neg (by simp), if_neg HN.out, if_neg (fun h => h (eq_of_beq o35)), if_pos E1.out]; rfl -- ]
        clear HR
        have hk := fits_l3 of w7 (HW.out w7 b7)
        rw [← hF] at hk
        clear hF
        go_wp2_with (fail)
        ((with_reducible refine hk.mono ?_); rintro e w8 ⟨rfl, hw8⟩); rw [hw8]
        go_wp2_with (fail)
        exact bodyPost_ret (results_tmp rfl _ _ _) rfl ⟨rfl, b7⟩
  · skip
    cases f0 : (f == 0)
    rotate_left
    · have E0 : Hid (f = 0) := Lib.hid (eq_of_beq f0)
      have hF0 : R = decide (0 ≤ of ∧ of ≤ 1020 ∧ of % 4 = 0) := by rw [HR.out, if_pos ⟨rfl, E0.out⟩]
      clear HR
      cases c1 : decide (0 ≤ of)
      · have hF : R = false := by rw [hF0]; exact decide_eq_false (by have := of_decide_eq_false c1; omega)
        clear hF0
        subst hF
        go_wp2_with (fail)
        exact bodyPost_ret (results_tmp rfl _ _ _) rfl ⟨rfl, b5⟩
      cases c2 : decide (of ≤ 1020)
      · have hF : R = false := by rw [hF0]; exact decide_eq_false (by have := of_decide_eq_false c2; omega)
        clear hF0
        subst hF
        go_wp2_with (fail)
        exact bodyPost_ret (results_tmp rfl _ _ _) rfl ⟨rfl, b5⟩
      cases c3 : (of % 4 == 0)
      · have hF : R = false := by rw [hF0]; exact decide_eq_false (by have := ne_of_beq_false c3; omega)
        clear hF0
        subst hF
        go_wp2_with (fail)
        exact bodyPost_ret (results_tmp rfl _ _ _) rfl ⟨rfl, b5⟩
      have hF : R = true := by rw [hF0]; exact decide_eq_true (by have := of_decide_eq_true c1; have := of_decide_eq_true c2; have := eq_of_beq c3; omega)
      clear hF0
      subst hF
      go_wp2_with (fail)
      exact bodyPost_ret (results_tmp rfl _ _ _) rfl ⟨rfl, b5⟩
    have n0 : f ≠ 0 := ne_of_beq_false f0
    go_wp2_with (with_reducible show wpList _ _ _ (_ :: _) _ _; refine wpList_stop 37 rfl ?_)
    refine Lib.hid ?_
    refine wpList_load_blk rfl 49 (.tmp 9) rfl w.heap.size (by rfl) _ hz5 _ Tryz.underlying49 rfl (by kernel_rfl) ?_
    go_wp2_with (fail)
    ((with_reducible refine (HP.out o n s A2 m c w5).mono ?_); rintro e w6 ⟨rfl, hb6⟩)
    have b6 := b5.trans (hb6.mono b5.size)
    have hz6 := (hb6.block w.heap.size (Array.getElem?_eq_some_iff.1 hz5).1).trans hz5
    obtain ⟨_, r1, r2, _⟩ := line_cells hz6
    have hF0 : R = decide (-4095 ≤ of ∧ of ≤ 4095) := by rw [HR.out, if_neg (by simp [n0]), if_pos trivial]
    clear HR
    cases c1 : decide (-4095 ≤ of)
    · have hF : R = false := by rw [hF0]; exact decide_eq_false (by have := of_decide_eq_false c1; omega)
      clear hF0
      subst hF
      go_wp2_with (fail)
      exact bodyPost_ret (results_tmp rfl _ _ _) rfl ⟨rfl, b6⟩
    cases c2 : decide (of ≤ 4095)
    · have hF : R = false := by rw [hF0]; exact decide_eq_false (by have := of_decide_eq_false c2; omega)
      clear hF0
      subst hF
      go_wp2_with (fail)
      exact bodyPost_ret (results_tmp rfl _ _ _) rfl ⟨rfl, b6⟩
    have hF : R = true := by rw [hF0]; exact decide_eq_true (by have := of_decide_eq_true c1; have := of_decide_eq_true c2; omega)
    clear hF0
    subst hF
    go_wp2_with (fail)
    exact bodyPost_ret (results_tmp rfl _ _ _) rfl ⟨rfl, b6⟩
end Go.Proofs.YtpdkpkabdkefcaaGreatDoor
namespace Go.Proofs.YtpdkpkabdkefcaaGreatDoor
open Go.Sx Go.ChangeShapes Go.WideShapes Go.RowKit Go.Joins Go.Deep Go.Rp
theorem LsAt.dropL {w : World} {K : Nat → Prop} {g off : Nat} {L : List Lw} (h : LsAt w K (some ⟨g, off, none⟩) L) (i : Nat) : LsAt w K (some ⟨g, off + i * 19, none⟩) (L.drop i) := by
  intro hn
  have hl : L ≠ [] := by rintro rfl; simp at hn
  obtain ⟨g', off', e, hg, hc⟩ := h hl
  simp only [Option.some.injEq, Addr.mk.injEq, and_true] at e
  obtain ⟨rfl, rfl⟩ := e
  refine ⟨_, _, rfl, hg, fun j hj => ?_⟩
  have hj2 : i + j < L.length := by simp at hj; omega
  obtain ⟨h1, e0, e1, e2, e3, h3, h4⟩ := hc (i + j) hj2
  have he : (L.drop i)[j] = L[i + j] := by simp
  refine ⟨by rw [he]; exact h1, e0, e1, e2, e3, fun k v hv => ?_, by rw [he]; exact h4⟩
  rw [he] at hv
  have := h3 k v hv
  rwa [show off + (i + j) * 19 = off + i * 19 + j * 19 by omega] at this
theorem idxF_lt {α : Type} {p : α → Bool} : ∀ {L : List α} {k : Nat}, idxF p L = some k → k < L.length
  | [], k, h => by simp [idxF] at h
  | x :: r, k, h => by
    rw [idxF] at h
    split at h
    · simp at h; subst h; simp
    · rw [Option.map_eq_some_iff] at h
      obtain ⟨k', h1, rfl⟩ := h
      have := idxF_lt h1
      simp; omega
theorem IAt.row {w : World} {B : Nat} {A : Option Addr} {l : List Int} (h : IAt w B A l) {k : Nat} (hk : k < l.length) {W : World} (hb : Below B w W) : ∃ g off, A = some ⟨g, off, none⟩ ∧ W.cell? ⟨g, off + k, none⟩ = some (.int .i64 (l.getD k 0)) := by
  obtain ⟨g, off, e, h1, h2⟩ := h.at_ hk
  refine ⟨g, off, e, (hb.cell (p := ⟨g, off + k, none⟩) h1).trans ?_⟩
  rw [h2, List.getD_eq_getElem?_getD, List.getElem?_eq_getElem hk]; rfl
def poolY (L : List Lw) (P : List (List Int)) (V A : List Int) (i : Nat) : Option Int :=
  match V[i]? with
  | none => none
  | some v => match valN v (P.getD (ofN L i) []) with
    | none => none
    | some k => some (A.getD (i + placeN (L.drop i)) 0 + leadI (A.getD (i + placeN (L.drop i)) 0) 4 + 4 * (k : Int))
set_option maxHeartbeats 8000000 in
theorem pooled_d {L : List Lw} {P : List (List Int)} {V : List Int} {I : List Bool} {A : List Int} (hL : L.length ≤ 1000) (hP : ∀ p ∈ P, p.length ≤ 100000) (hPl : P.length ≤ 1000000) (hVl : V.length ≤ 1000000) (hAl : A.length = L.length + 1) (hA : ∀ a ∈ A, 0 ≤ a ∧ a ≤ 1000000000000)
    {b i : Nat} (hi : i < L.length) {w : World} (hD : DeskAt w b L P V I A) :
    Calls Tryz.prog 62 #[.pointer (some ⟨b, 0, none⟩), .int .i64 i] w fun e w' => e = .returned (.tuple #[.int .i64 ((poolY L P V A i).getD 0), .bool (poolY L P V A i).isSome]) ∧ Below w.heap.size w w' := by
  generalize hR : poolY L P V A i = R
  have HR := Lib.hid hR
  clear hR
  obtain ⟨AL, cL, AP, cP, AV, cV, AI, cI, AA, cA, hblk, hcap, hLs, hPs, hVs, _, hAs⟩ := hD
  have hbl : b < w.heap.size := (Array.getElem?_eq_some_iff.1 hblk).1
  have kD : ∀ W, Below w.heap.size w W → W.cell? ⟨b, 0, none⟩ = some (.slice AL L.length cL) ∧ W.cell? ⟨b, 1, none⟩ = some (.slice AP P.length cP) ∧ W.cell? ⟨b, 2, none⟩ = some (.slice AV V.length cV) ∧ W.cell? ⟨b, 4, none⟩ = some (.slice AA A.length cA) := fun W hb =>
    ⟨(hb.cell (p := ⟨b, 0, none⟩) hbl).trans (by simp [World.cell?, hblk]), (hb.cell (p := ⟨b, 1, none⟩) hbl).trans (by simp [World.cell?, hblk]), (hb.cell (p := ⟨b, 2, none⟩) hbl).trans (by simp [World.cell?, hblk]), (hb.cell (p := ⟨b, 4, none⟩) hbl).trans (by simp [World.cell?, hblk])⟩
  obtain ⟨k0, k1, k2, k4⟩ := kD w (Below.refl _ _)
  go_enter Tryz.func62, Tryz.ntmps62
  by_cases hv : i < V.length
  rotate_left
  · have u : decide ((V.length : Int) ≤ (i : Int)) = true := decide_eq_true (by omega)
    have hF : R = none := by rw [← HR.out, poolY, List.getElem?_eq_none (by omega)]
    subst hF
    go_wp2_with (fail)
    exact bodyPost_ret (results_tmp2 rfl _ _ _) rfl ⟨rfl, Below.refl _ _⟩
  · have u : decide ((V.length : Int) ≤ (i : Int)) = false := decide_eq_false (by omega)
    have u2 : decide ((i : Int) < (V.length : Int)) = true := decide_eq_true (by omega)
    obtain ⟨gV, oV, rfl, hgV, hcV⟩ := hVs.at_ hv
    have hRv : R = match valN V[i] (P.getD (ofN L i) []) with | none => none | some k => some (A.getD (i + placeN (L.drop i)) 0 + leadI (A.getD (i + placeN (L.drop i)) 0) 4 + 4 * (k : Int)) := by rw [← HR.out, poolY, List.getElem?_eq_getElem hv]
    clear HR
    have hof := fun W (hb : Below w.heap.size w W) => of_l L (by omega) i (by omega) AL cL W (fun g => g < w.heap.size) (hLs.below (fun _ h => h) hb) (fun g hg => Nat.lt_of_lt_of_le hg hb.size)
    have hpo := fun W (hb : Below w.heap.size w W) => pool_l P (ofN L i) hPl AP cP W ((hPs.below hb (Nat.le_refl _)).more hb.size)
    have hfi := fun W Ai ci h => find_l V[i] (P.getD (ofN L i) []) (by have := getD_pool hP (ofN L i); omega) Ai ci W h
    have hpl2 := getD_pool hP (ofN L i)
    generalize P.getD (ofN L i) [] = pq at hRv hpo hfi hpl2
    generalize ofN L i = oq at hof hpo
    generalize V[i] = v at hcV hRv hfi
    have cV' : ∀ W, Below w.heap.size w W → W.cell? ⟨gV, oV + i, none⟩ = some (.int .i64 v) := fun W hb => (hb.cell (p := ⟨gV, oV + i, none⟩) hgV).trans hcV
    have kS : ∀ W, Below w.heap.size w W → W.cell? ⟨b, 0, none⟩ = some (.slice AL L.length cL) ∧ W.cell? ⟨b, 1, none⟩ = some (.slice AP P.length cP) ∧ W.cell? ⟨b, 2, none⟩ = some (.slice (some ⟨gV, oV, none⟩) V.length cV) ∧ W.cell? ⟨gV, oV + i, none⟩ = some (.int .i64 v) := fun W hb => ⟨(kD W hb).1, (kD W hb).2.1, (kD W hb).2.2.1, cV' W hb⟩
    have kS0 := kS w (Below.refl _ _)
    have kS1 := kS w.drew (Below.refl _ _).drew
    have J1 : ∀ W, Below w.drew.heap.size w.drew W → Below w.heap.size w W := fun W h => (Below.refl w.heap.size w).drew.trans h
    have HK := Lib.hid kD
    have HS := Lib.hid hRv
    have HOf := Lib.hid hof
    have HPo := Lib.hid hpo
    have HFi := Lib.hid hfi
    clear hRv hof hpo hfi kD hblk
    have D0 := (Below.refl w.heap.size w).drew
    go_wp2_with (fail)
    go_region_held3 (fun W => W.cell? ⟨b, 0, none⟩ = some (.slice AL L.length cL) ∧ W.cell? ⟨b, 1, none⟩ = some (.slice AP P.length cP) ∧ W.cell? ⟨b, 2, none⟩ = some (.slice (some ⟨gV, oV, none⟩) V.length cV) ∧ W.cell? ⟨gV, oV + i, none⟩ = some (.int .i64 v))
      (first
        | (with_reducible exact kS _ B3)
        | (with_reducible exact kS _ B1)
        | (with_reducible exact kS0)
        | (with_reducible exact kS1)
        | go_keep)
      (first
        | (go_at_call 92; (with_reducible refine (HOf.out _ D0).mono ?_); rintro e w1 ⟨rfl, hb1⟩; have B1 := J1 _ hb1)
        | (go_at_call 39; (with_reducible refine (HPo.out _ B1).mono ?_); rintro e w2 ⟨⟨Ai, ci, rfl, hIA⟩, rfl⟩)
        | (go_at_call 91; (with_reducible refine (HFi.out _ Ai ci hIA).mono ?_); rintro e w3 ⟨rfl, hb3⟩; have B3 := B1.trans (hb3.mono B1.size)))
    have hvl : ∀ k, valN v pq = some k → k < pq.length := fun k h => idxF_lt (by rw [← valN_idx]; exact h)
    generalize valN v pq = kk at HS hvl
    cases kk with
    | none =>
      have hF : R = none := HS.out
      subst hF
      have u3 : decide (idxI none < 0) = true := rfl
      go_wp2_with (fail)
      exact bodyPost_ret (results_tmp2 rfl _ _ _) rfl ⟨rfl, B3⟩
    | some k =>
      have hkl : k < pq.length := hvl k rfl
      have hF : R = some (A.getD (i + placeN (L.drop i)) 0 + leadI (A.getD (i + placeN (L.drop i)) 0) 4 + 4 * (k : Int)) := HS.out
      rw [placeN_idx] at hF
      clear HS hvl
      obtain ⟨g, off, _, _, _, _, _, _, rfl, hgl, _, _⟩ := hLs.line (fun _ h => h) hi
      have hix := idxPool_l (L.drop i) (by rw [List.length_drop]; omega) (some ⟨g, off + i * 19, none⟩) (cL - i) w3 (fun g => g < w.heap.size) ((hLs.below (fun _ h => h) B3).dropL i) (fun g hg => Nat.lt_of_lt_of_le hg B3.size)
      have hil : ∀ j, idxF (fun y : Lw => y.k == 5) (L.drop i) = some j → i + j < L.length := fun j h => by have := idxF_lt h; rw [List.length_drop] at this; omega
      rw [List.length_drop] at hix hF
      generalize idxF (fun y : Lw => y.k == 5) (L.drop i) = oj at hix hil hF
      have HF := Lib.hid hF
      have HI := Lib.hid hil
      have u3 : idxI (some k) = (k : Int) := rfl
      obtain ⟨e0, e1, e2, e4⟩ := HK.out w3 B3
      have hcL : i ≤ cL := by omega
      clear hF hil
      go_wp2_with (fail)
      ((with_reducible refine hix.mono ?_); rintro e w5 ⟨rfl, hb5⟩)
      have B5 := B3.trans (hb5.mono B3.size)
      obtain ⟨d0, d1, d2, d4⟩ := HK.out w5 B5
      obtain ⟨gA, oA, rfl, cl⟩ := hAs.row (show L.length < A.length by omega) B5
      have BD := B5.drew
      obtain ⟨aL, haL⟩ : ∃ a, Hid (a = A.getD L.length 0) := ⟨_, Lib.hid rfl⟩
      rw [← haL.out] at cl
      have hwl : IntKind.i64.wrap (L.length : Int) = (L.length : Int) := by rw [IntWalk.i64_left]; unfold wrap64; omega
      clear hix e0 e1 e2 e4
      go_wp2_with (fail)
      have cl' : w5.drew.cell? ⟨gA, oA + L.length, none⟩ = some (.int .i64 aL) := cl
      have row := fun j (hj : j < A.length) => hAs.row hj BD
      have HRow := Lib.hid row
      clear d1 d2 row
      go_region_with (fail)
      all_goals (
        obtain ⟨c0, _, _, c4⟩ := HK.out w5.drew BD
        generalize w5.drew = w6 at BD HRow cl' c0 c4 ⊢
        clear cl d0 d4
        rcases oj with _ | j
        · have u4 : decide (0 ≤ idxI none) = false := rfl
          have ha : 0 ≤ aL ∧ aL ≤ 1000000000000 := by rw [haL.out]; exact mem_getD hA (by omega) L.length
          have hF : R = some (aL + leadI aL 4 + 4 * (k : Int)) := by rw [haL.out, HF.out, show i + (none : Option Nat).getD (L.length - i) = L.length from by simp; omega]
          have hb4 := leadI_bd aL 4 (by omega)
          have hld := lead_l aL 4 (by omega) w6
          generalize leadI aL 4 = q at hF hb4 hld
          clear HF
          subst hF
          go_wp2_with (fail)
          ((with_reducible refine hld.mono ?_); rintro e wz ⟨rfl, hwz⟩); rw [hwz]; clear hwz wz
          go_wp2_with (fail)
          exact bodyPost_ret (results_tmp2 rfl _ _ _) rfl ⟨rfl, BD⟩
        · have u4 : decide (0 ≤ idxI (some j)) = true := decide_eq_true (by show (0 : Int) ≤ (j : Int); omega)
          have u5 : idxI (some j) = (j : Int) := rfl
          have hj := HI.out j rfl
          obtain ⟨g2, o2, e2, cj⟩ := HRow.out (i + j) (by omega)
          simp only [Option.some.injEq, Addr.mk.injEq, and_true] at e2
          obtain ⟨rfl, rfl⟩ := e2
          have hij : IntKind.i64.wrap ((i : Int) + (j : Int)) = ((i + j : Nat) : Int) := by rw [IntWalk.i64_left]; unfold wrap64; omega
          have ha := mem_getD hA (by omega) (i + j)
          have hF : R = some (A.getD (i + j) 0 + leadI (A.getD (i + j) 0) 4 + 4 * (k : Int)) := by rw [HF.out, show (some j).getD (L.length - i) = j from rfl]
          have hb4 := leadI_bd (A.getD (i + j) 0) 4 (by omega)
          have hld := lead_l (A.getD (i + j) 0) 4 (by omega) w6
          generalize A.getD (i + j) 0 = a at cj ha hF hb4 hld
          generalize leadI a 4 = q at hF hb4 hld
          clear HF
          subst hF
          go_wp2_with (fail)
          ((with_reducible refine hld.mono ?_); rintro e wz ⟨rfl, hwz⟩); rw [hwz]; clear hwz wz
          go_wp2_with (fail)
          exact bodyPost_ret (results_tmp2 rfl _ _ _) rfl ⟨rfl, BD⟩
        )
end Go.Proofs.YtpdkpkabdkefcaaGreatDoor
namespace Go.Proofs.YtpdkpkabdkefcaaGreatDoor
open Go.Sx Go.ChangeShapes Go.WideShapes Go.RowKit Go.Joins Go.Deep Go.Rp
theorem poolY_bd {L : List Lw} {P : List (List Int)} {V A : List Int} {i : Nat} (hP : ∀ p ∈ P, p.length ≤ 100000) (hA : ∀ a ∈ A, 0 ≤ a ∧ a ≤ 1000000000000) : 0 ≤ (poolY L P V A i).getD 0 ∧ (poolY L P V A i).getD 0 ≤ 2000000000000 := by
  unfold poolY
  split
  · simp
  split
  · simp
  · rename_i k hk
    have h1 := idxF_lt (by rw [← valN_idx]; exact hk)
    have h2 := getD_pool hP (ofN L i)
    have h3 := mem_getD hA (by omega) (i + placeN (L.drop i))
    have h4 := leadI_bd (A.getD (i + placeN (L.drop i)) 0) 4 (by omega)
    simp only [Option.getD_some]
    omega
set_option maxHeartbeats 8000000 in
theorem offset_d {L : List Lw} {P : List (List Int)} {V : List Int} {I : List Bool} {A : List Int} (hL : L.length ≤ 1000) (hP : ∀ p ∈ P, p.length ≤ 100000) (hPl : P.length ≤ 1000000) (hVl : V.length ≤ 1000000) (hAl : A.length = L.length + 1) (hA : ∀ a ∈ A, 0 ≤ a ∧ a ≤ 1000000000000)
    {b i : Nat} (hi : i < L.length) (f : Int) {w : World} (hD : DeskAt w b L P V I A) :
    Calls Tryz.prog 32 #[.pointer (some ⟨b, 0, none⟩), .int .i64 i, .int .i64 f] w fun e w' => (∃ x : Int, e = .returned (.tuple #[.int .i64 x, .bool (offY L P V A i L[i] f).isSome]) ∧ ∀ v, offY L P V A i L[i] f = some v → x = v) ∧ Below w.heap.size w w' := by
  have hDV := fun W h => DeskAt.below (w' := W) hD h
  have hpo := fun W (hb : Below w.heap.size w W) => pooled_d hL hP hPl hVl hAl hA hi (hDV W hb)
  have hRP : offY L P V A i L[i] f = if L[i].k = 2 then (poolY L P V A i).map (· - (A.getD i 0 + 4) / 4 * 4) else (labN L[i].ref L).map fun t => if placeB L[i] then A.getD t 0 - (A.getD i 0 + 4) / 4 * 4 else if f = 2 then A.getD t 0 - (A.getD i 0 + 4 + 2) else A.getD t 0 - (A.getD i 0 + 4) := by
    unfold offY poolY
    dsimp only
    split
    · cases V[i]? with
      | none => rfl
      | some v => dsimp only; cases valN v (P.getD (ofN L i) []) <;> rfl
    · cases labN L[i].ref L <;> rfl
  generalize offY L P V A i L[i] f = R at hRP
  have hpb := poolY_bd (L := L) (V := V) (i := i) hP hA
  generalize poolY L P V A i = pz at hpo hRP hpb
  have htg := fun AL cL W (hb : Below w.heap.size w W) (hLs : LsAt w (fun g => g < w.heap.size) AL L) => target_l L[i].ref L (by omega) AL cL W (fun g => g < w.heap.size) (hLs.below (fun _ h => h) hb) (fun g hg => Nat.lt_of_lt_of_le hg hb.size)
  have htl := labN_lt L[i].ref L
  generalize labN L[i].ref L = tn at hRP htg htl
  obtain ⟨AL, cL, AP, cP, AV, cV, AI, cI, AA, cA, hblk, hcap, hLs, _, _, _, hAs⟩ := hD
  replace htg := fun W hb => htg AL cL W hb hLs
  have hbl : b < w.heap.size := (Array.getElem?_eq_some_iff.1 hblk).1
  have kD : ∀ W, Below w.heap.size w W → W.cell? ⟨b, 0, none⟩ = some (.slice AL L.length cL) ∧ W.cell? ⟨b, 4, none⟩ = some (.slice AA A.length cA) := fun W hb =>
    ⟨(hb.cell (p := ⟨b, 0, none⟩) hbl).trans (by simp [World.cell?, hblk]), (hb.cell (p := ⟨b, 4, none⟩) hbl).trans (by simp [World.cell?, hblk])⟩
  obtain ⟨g, off, o, n, s, A2, m, c, rfl, hgl, hok, hline⟩ := hLs.line (fun _ h => h) hi
  have hpl := fun o n s A2 m c => place_l L[i] (.int .i64 o) (.int .i64 n) (.string (tx s)) (.slice A2 m c)
  have hl0 := (hline w (Below.refl _ _)).1
  have hl1 := (hline w.drew (Below.refl _ _).drew).1
  have hline2 := fun W hb => (hline W hb).1
  generalize placeB L[i] = pb at hRP hpl
  generalize L[i] = y at hl0 hl1 hRP hpl htg hline2
  have ha := mem_getD hA (by omega) i
  have hrow := fun j (hj : j < A.length) W hb => hAs.row hj (W := W) hb
  obtain ⟨gA, oA, rfl, ca⟩ := hAs.row (show i < A.length by omega) (Below.refl _ _)
  obtain ⟨gA', oA', e', ca1⟩ := hAs.row (show i < A.length by omega) (Below.refl w.heap.size w).drew
  simp only [Option.some.injEq, Addr.mk.injEq, and_true] at e'
  obtain ⟨rfl, rfl⟩ := e'
  have kS : ∀ W, Below w.heap.size w W → W.cell? ⟨b, 0, none⟩ = some (.slice (some ⟨g, off, none⟩) L.length cL) ∧ W.cell? ⟨b, 4, none⟩ = some (.slice (some ⟨gA, oA, none⟩) A.length cA) ∧ W.rangeAt g (off + i * 19) (lwX y o n s A2 m c).toList ∧ W.cell? ⟨gA, oA + i, none⟩ = some (.int .i64 (A.getD i 0)) := fun W hb => ⟨(kD W hb).1, (kD W hb).2, hline2 W hb, by
    obtain ⟨g', o', e', c'⟩ := hrow i (by omega) W hb
    simp only [Option.some.injEq, Addr.mk.injEq, and_true] at e'
    obtain ⟨rfl, rfl⟩ := e'
    exact c'⟩
  generalize A.getD i 0 = a at hRP ha ca ca1 kS
  have HS := Lib.hid kS
  clear kS hline2
  obtain ⟨U, hV, bV, sV, hzV, hth⟩ := line_copy w.drew y o n s A2 m c
  have hzU : U.heap[w.heap.size]? = some (.cells (lwX y o n s A2 m c) 49 (0, 0)) := hzV
  obtain ⟨_, q1, _, _, _, _, _, q12, _, _⟩ := line_cells hzU
  have D0 := (Below.refl w.heap.size w).drew
  have bU : Below w.heap.size w U := D0.trans bV
  have kU := kD U bU
  obtain ⟨k0, k4⟩ := kD w (Below.refl _ _)
  have k1 := kD w.drew D0
  have hli : i < A.length := by omega
  have hw4 : IntKind.i64.wrap (a + 4) = a + 4 := by rw [IntWalk.i64_left]; unfold wrap64; omega
  have HRP := Lib.hid hRP
  have HPo := Lib.hid hpo
  have HTg := Lib.hid htg
  have HTl := Lib.hid htl
  have HPl := Lib.hid hpl
  have HK := Lib.hid kD
  have HRow := Lib.hid hrow
  have HAl := Lib.hid hAl
  clear hRP hpo htg htl hpl hDV kD hrow hline hok hblk hLs hAs hAl
  dsimp only [lwX, lwC] at hl0 hl1
  go_enter Tryz.func32, Tryz.ntmps32
  go_wp2_with (fail)
  refine wp_region_held_drew (S := (fun W => W.cell? ⟨b, 0, none⟩ = some (.slice (some ⟨g, off, none⟩) L.length cL) ∧ W.cell? ⟨b, 4, none⟩ = some (.slice (some ⟨gA, oA, none⟩) A.length cA) ∧ W.rangeAt g (off + i * 19) (lwX y o n s A2 m c).toList ∧ W.cell? ⟨gA, oA + i, none⟩ = some (.int .i64 a))) (by kernel_rfl) ⟨k1.1, k1.2, hl1, ca1⟩ (fun hHeld => ?_)
  refine wpAnyH_take (i := 0) (oi := ⟨some 13, .move (.tmp 0), _, _, _, none⟩) (v := .pointer (some ⟨b, 0, none⟩)) rfl (by kernel_rfl) (by kernel_rfl) (by kernel_rfl) (fun _ _ _ h => h) (Or.inl ⟨by rfl, fun _ _ => by kernel_rfl⟩) (by assumption) ?_
  simp only [Act.put, List.setIfInBounds_toArray, List.set_cons_zero, List.set_cons_succ]
  refine wpAnyH_take (i := 1) (oi := ⟨some 14, .nilCheck (.tmp 13), _, _, _, none⟩) (v := .pointer (some ⟨b, 0, none⟩)) rfl (by kernel_rfl) (by kernel_rfl) (by kernel_rfl) (fun _ _ _ h => h) (Or.inl ⟨by rfl, fun _ _ => by kernel_rfl⟩) (by assumption) ?_
  simp only [Act.put, List.setIfInBounds_toArray, List.set_cons_zero, List.set_cons_succ]
  refine wpAnyH_take (i := 2) (oi := ⟨some 15, .fieldAddr 62 (.tmp 14) 0, _, _, _, none⟩) (v := .pointer (some ⟨b, 0, none⟩)) rfl (by kernel_rfl) (by kernel_rfl) (by kernel_rfl) (fun _ _ _ h => h) (Or.inl ⟨by rfl, fun _ _ => by kernel_rfl⟩) (by assumption) ?_
  simp only [Act.put, List.setIfInBounds_toArray, List.set_cons_zero, List.set_cons_succ]
  refine wpAnyH_take (i := 3) (oi := ⟨some 16, .load _ (.tmp 15), _, _, _, none⟩) (v := .slice (some ⟨g, off, none⟩) L.length cL) rfl (by kernel_rfl) (by kernel_rfl) (by kernel_rfl) (fun _ _ _ h => h) (Or.inl ⟨by rfl, fun w' h => by obtain ⟨h0, h4, _, h6⟩ := h; go_simp⟩) (by assumption) ?_
  simp only [Act.put, List.setIfInBounds_toArray, List.set_cons_zero, List.set_cons_succ]
  refine wpAnyH_take (i := 4) (oi := ⟨some 17, .move (.tmp 1), _, _, _, none⟩) (v := .int .i64 i) rfl (by kernel_rfl) (by kernel_rfl) (by kernel_rfl) (fun _ _ _ h => h) (Or.inl ⟨by rfl, fun _ _ => by kernel_rfl⟩) (by assumption) ?_
  simp only [Act.put, List.setIfInBounds_toArray, List.set_cons_zero, List.set_cons_succ]
  refine wpAnyH_take (i := 5) (oi := ⟨some 18, .indexAddr 22 (.tmp 16) (.tmp 17), _, _, _, none⟩) (v := .pointer (some ⟨g, off + i * 19, none⟩)) rfl (by kernel_rfl) (by kernel_rfl) (by kernel_rfl) (fun _ _ _ h => h) (Or.inl ⟨by rfl, fun w' h => by go_simp⟩) (by assumption) ?_
  simp only [Act.put, List.setIfInBounds_toArray, List.set_cons_zero, List.set_cons_succ]
  refine wpAnyH_take (i := 6) (oi := ⟨some 19, .load 49 (.tmp 18), _, _, _, none⟩) (v := .agg (lwX y o n s A2 m c)) rfl (by kernel_rfl) (by kernel_rfl) (by kernel_rfl) (fun _ _ _ h => h) (yieldsIf_load_mid (by rfl) 49 (.tmp 18) rfl g (off + i * 19) rfl _ _ (fun w' h => h.2.2.1) Tryz.underlying49 rfl (by kernel_rfl)) (by assumption) ?_
  simp only [Act.put, List.setIfInBounds_toArray, List.set_cons_zero, List.set_cons_succ]
  refine wpAnyH_take (i := 7) (oi := ⟨some 20, .move (.tmp 0), _, _, _, none⟩) (v := .pointer (some ⟨b, 0, none⟩)) rfl (by kernel_rfl) (by kernel_rfl) (by kernel_rfl) (fun _ _ _ h => h) (Or.inl ⟨by rfl, fun _ _ => by kernel_rfl⟩) (by assumption) ?_
  simp only [Act.put, List.setIfInBounds_toArray, List.set_cons_zero, List.set_cons_succ]
  refine wpAnyH_take (i := 8) (oi := ⟨some 21, .nilCheck (.tmp 20), _, _, _, none⟩) (v := .pointer (some ⟨b, 0, none⟩)) rfl (by kernel_rfl) (by kernel_rfl) (by kernel_rfl) (fun _ _ _ h => h) (Or.inl ⟨by rfl, fun _ _ => by kernel_rfl⟩) (by assumption) ?_
  simp only [Act.put, List.setIfInBounds_toArray, List.set_cons_zero, List.set_cons_succ]
  refine wpAnyH_take (i := 9) (oi := ⟨some 22, .fieldAddr 62 (.tmp 21) 4, _, _, _, none⟩) (v := .pointer (some ⟨b, 4, none⟩)) rfl (by kernel_rfl) (by kernel_rfl) (by kernel_rfl) (fun _ _ _ h => h) (Or.inl ⟨by rfl, fun _ _ => by kernel_rfl⟩) (by assumption) ?_
  simp only [Act.put, List.setIfInBounds_toArray, List.set_cons_zero, List.set_cons_succ]
  refine wpAnyH_take (i := 10) (oi := ⟨some 23, .load _ (.tmp 22), _, _, _, none⟩) (v := .slice (some ⟨gA, oA, none⟩) A.length cA) rfl (by kernel_rfl) (by kernel_rfl) (by kernel_rfl) (fun _ _ _ h => h) (Or.inl ⟨by rfl, fun w' h => by obtain ⟨h0, h4, _, h6⟩ := h; go_simp⟩) (by assumption) ?_
  simp only [Act.put, List.setIfInBounds_toArray, List.set_cons_zero, List.set_cons_succ]
  refine wpAnyH_take (i := 11) (oi := ⟨some 24, .move (.tmp 1), _, _, _, none⟩) (v := .int .i64 i) rfl (by kernel_rfl) (by kernel_rfl) (by kernel_rfl) (fun _ _ _ h => h) (Or.inl ⟨by rfl, fun _ _ => by kernel_rfl⟩) (by assumption) ?_
  simp only [Act.put, List.setIfInBounds_toArray, List.set_cons_zero, List.set_cons_succ]
  refine wpAnyH_take (i := 12) (oi := ⟨some 25, .indexAddr 26 (.tmp 23) (.tmp 24), _, _, _, none⟩) (v := .pointer (some ⟨gA, oA + i, none⟩)) rfl (by kernel_rfl) (by kernel_rfl) (by kernel_rfl) (fun _ _ _ h => h) (Or.inl ⟨by rfl, fun w' h => by go_simp⟩) (by assumption) ?_
  simp only [Act.put, List.setIfInBounds_toArray, List.set_cons_zero, List.set_cons_succ]
  refine wpAnyH_take (i := 13) (oi := ⟨some 26, .load _ (.tmp 25), _, _, _, none⟩) (v := .int .i64 a) rfl (by kernel_rfl) (by kernel_rfl) (by kernel_rfl) (fun _ _ _ h => h) (Or.inl ⟨by rfl, fun w' h => by obtain ⟨h0, h4, _, h6⟩ := h; go_simp⟩) (by assumption) ?_
  simp only [Act.put, List.setIfInBounds_toArray, List.set_cons_zero, List.set_cons_succ]
  refine wpAnyH_take (i := 14) (oi := ⟨some 27, .binOp BinOp.add 3 (.tmp 26) (.const (.int .i64 4)) 3, _, _, _, none⟩) (v := .int .i64 (a + 4)) rfl (by kernel_rfl) (by kernel_rfl) (by kernel_rfl) (fun _ _ _ h => h) (Or.inl ⟨by rfl, fun w' h => by go_simp⟩) (by assumption) ?_
  simp only [Act.put, List.setIfInBounds_toArray, List.set_cons_zero, List.set_cons_succ]
  refine ready_one (i := 15) (o := ⟨some 8, .alloc 49, _, _, _, none⟩) (by kernel_rfl) rfl rfl (fun K hK => ?_)
  unfold Oper.wp
  rw [alloc_line, Oper.upon_value]
  refine hK.out _ _ (HS.out _ (D0.alloc (Nat.le_refl _) _)) (fun hHeld => ?_)
  simp only [Act.put, List.setIfInBounds_toArray, List.set_cons_zero, List.set_cons_succ]
  refine ready_one (i := 16) (o := ⟨none, .store 49 (.tmp 8) (.tmp 19), _, _, _, none⟩) (by kernel_rfl) rfl rfl (fun K hK => ?_)
  refine wp_store_mid 49 (.tmp 8) (.tmp 19) rfl w.drew.heap.size 0 (lwX y o n s A2 m c) rfl rfl hth (by kernel_rfl) (lwC_one _ _ _ _ _ _ _) ?_
  rw [← hV.out]
  refine hK.out _ _ (HS.out _ bU) (fun hHeld => ?_)
  refine wpAnyH_take (i := 17) (oi := ⟨some 9, .assign (.tmp 27), _, _, _, none⟩) (v := .int .i64 (a + 4)) rfl (by kernel_rfl) (by kernel_rfl) (by kernel_rfl) (fun _ _ _ h => h) (Or.inl ⟨by rfl, fun _ _ => by kernel_rfl⟩) (by assumption) ?_
  simp only [Act.put, List.setIfInBounds_toArray, List.set_cons_zero, List.set_cons_succ]
  refine wpAnyH_done (by kernel_rfl) ?_ _
  cases k2 : (y.k == 2)
  rotate_left
  · skip
    have hF : R = pz.map (· - (a + 4) / 4 * 4) := HRP.out.trans (if_pos (eq_of_beq k2))
    have hF2 : R.isSome = pz.isSome := by rw [hF]; cases pz <;> rfl
    have hF3 : ∀ v, R = some v → pz.getD 0 - (a + 4) / 4 * 4 = v := fun v h => by rw [hF] at h; cases pz with | none => cases h | some z => simpa using h
    have hn : bits BinOp.andNot IntKind.i64 (a + 4) 3 = (a + 4) / 4 * 4 := andNot_low (a + 4) 2 (by omega) (by decide)
    clear hF HRP
    have HF2 := Lib.hid hF2
    have HF3 := Lib.hid hF3
    clear hF2 hF3
    go_wp2_with (fail)
    ((with_reducible refine (HPo.out U bU).mono ?_); rintro e w5 ⟨rfl, hb5⟩)
    have b5 := bU.trans (hb5.mono bU.size)
    generalize pz.getD 0 = z0 at hpb HF3
    generalize pz.isSome = o0 at HF2
    go_wp2_with (fail)
    exact bodyPost_ret (results_tmp2 rfl _ _ _) rfl ⟨⟨_, by rw [HF2.out]; rfl, HF3.out⟩, b5⟩
  · skip
    have hF : R = tn.map fun t => if pb then A.getD t 0 - (a + 4) / 4 * 4 else if f = 2 then A.getD t 0 - (a + 4 + 2) else A.getD t 0 - (a + 4) := HRP.out.trans (if_neg (ne_of_beq_false k2))
    have HF := Lib.hid hF
    clear hF HRP
    have kT : ∀ W, Below U.heap.size U W → W.cell? ⟨b, 0, none⟩ = some (.slice (some ⟨g, off, none⟩) L.length cL) ∧ W.cell? ⟨w.heap.size, 12, none⟩ = some (.string (tx y.ref)) := fun W hb => ⟨(HK.out W (bU.trans (hb.mono bU.size))).1, (hb.cell (p := ⟨w.heap.size, 12, none⟩) (Array.getElem?_eq_some_iff.1 hzU).1).trans q12⟩
    have kT0 := kT U (Below.refl _ _)
    have kT1 := kT U.drew (Below.refl _ _).drew
    have J1 : ∀ W, Below U.drew.heap.size U.drew W → Below U.heap.size U W := fun W h => (Below.refl U.heap.size U).drew.trans h
    have bUD : Below w.heap.size w U.drew := bU.drew
    go_wp2_with (fail)
    go_region_held3 (fun W => W.cell? ⟨b, 0, none⟩ = some (.slice (some ⟨g, off, none⟩) L.length cL) ∧ W.cell? ⟨w.heap.size, 12, none⟩ = some (.string (tx y.ref)))
      (first
        | (with_reducible exact kT _ B1)
        | (with_reducible exact kT0)
        | (with_reducible exact kT1)
        | go_keep)
      (first
        | (go_at_call 63; (with_reducible refine (HTg.out _ bUD).mono ?_); rintro e w5 ⟨rfl, hb5⟩; have B1 := J1 _ hb5))
    have b5 := bU.trans (B1.mono bU.size)
    have hz5 := (B1.block w.heap.size (Array.getElem?_eq_some_iff.1 hzU).1).trans hzU
    rcases tn with _ | t
    · have hF2 : R = none := HF.out
      subst hF2
      have u3 : decide (idxI none < 0) = true := rfl
      go_wp2_with (fail)
      exact bodyPost_ret (results_tmp2 rfl _ _ _) rfl ⟨⟨0, rfl, fun v h => by cases h⟩, b5⟩
    have u3 : idxI (some t) = (t : Int) := rfl
    have ht := HTl.out t rfl
    go_wp2_with (with_reducible show wpList _ _ _ (_ :: _) _ _; refine wpList_stop 53 rfl ?_)
    refine Lib.hid ?_
    refine wpList_load_blk rfl 49 (.tmp 8) rfl w.heap.size (by rfl) _ hz5 _ Tryz.underlying49 rfl (by kernel_rfl) ?_
    go_wp2_with (fail)
    ((with_reducible refine (HPl.out o n s A2 m c w5).mono ?_); rintro e w6 ⟨rfl, hb6⟩)
    have b6 := b5.trans (hb6.mono b5.size)
    obtain ⟨gA2, oA2, e2, c6⟩ := HRow.out t (by have := HAl.out; omega) w6 b6
    simp only [Option.some.injEq, Addr.mk.injEq, and_true] at e2
    obtain ⟨rfl, rfl⟩ := e2
    obtain ⟨_, x4⟩ := HK.out w6 b6
    have hat := mem_getD hA (by omega) t
    have hF2 : R = some (if pb = true then A.getD t 0 - (a + 4) / 4 * 4 else if f = 2 then A.getD t 0 - (a + 4 + 2) else A.getD t 0 - (a + 4)) := HF.out
    generalize A.getD t 0 = at_ at hF2 hat c6
    have hn : bits BinOp.andNot IntKind.i64 (a + 4) 3 = (a + 4) / 4 * 4 := andNot_low (a + 4) 2 (by omega) (by decide)
    have htA : t < A.length := by have := HAl.out; omega
    clear HF
    cases pb
    rotate_left
    · have hF3 : R = some (at_ - (a + 4) / 4 * 4) := hF2
      clear hF2
      subst hF3
      go_wp2_with (fail)
      exact bodyPost_ret (results_tmp2 rfl _ _ _) rfl ⟨⟨_, rfl, fun v h => by simpa using h⟩, b6⟩
    cases f2 : (f == 2)
    · have hF3 : R = some (at_ - (a + 4)) := by rw [hF2, if_neg (by decide), if_neg (ne_of_beq_false f2)]
      clear hF2
      subst hF3
      go_wp2_with (fail)
      exact bodyPost_ret (results_tmp2 rfl _ _ _) rfl ⟨⟨_, rfl, fun v h => by simpa using h⟩, b6⟩
    · have hF3 : R = some (at_ - (a + 4 + 2)) := by rw [hF2, if_neg (by decide), if_pos (eq_of_beq f2)]
      clear hF2
      subst hF3
      go_wp2_with (fail)
      exact bodyPost_ret (results_tmp2 rfl _ _ _) rfl ⟨⟨_, rfl, fun v h => by simpa using h⟩, b6⟩
end Go.Proofs.YtpdkpkabdkefcaaGreatDoor
