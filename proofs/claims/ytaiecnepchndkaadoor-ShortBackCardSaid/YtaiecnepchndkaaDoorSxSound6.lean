/- The executor is right: operations on the heap. -/
import Derived.Test.YtaiecnepchndkaaDoorSxSound5
import Derived.Laws.CopyRow
import Derived.Laws.AppendOwn
namespace Go.Sx

section
variable {ρ : Env} {G : Globs} {K : Nat → Prop} {w0 w : World} {ι : Nm} {h : Heap} {P : Program}

theorem getElem?_set_cases {n m : Nat} {b c : Blk} (hn : n < h.length) (hc : (h.set n (some b))[m]? = some (some c)) : (m ≠ n ∧ h[m]? = some (some c)) ∨ (m = n ∧ c = b) := by
  by_cases hm : m = n
  · subst hm; rw [List.getElem?_set_self hn] at hc; simp at hc; exact .inr ⟨rfl, hc.symm⟩
  · rw [List.getElem?_set_ne (Ne.symm hm)] at hc; exact .inl ⟨hm, hc⟩

/-- A block's cells are others. -/
theorem HR.row (H : HR ρ G K w0 ι h w) {n : Nat} {b b' : Blk} (hb : h[n]? = some (some b)) (he : b'.elem = b.elem) (cs' : Array Value) (hf : b'.Fits ρ ι (ι.cap n) cs') (hs : b'.cells.sc h.length = true) :
    HR ρ G K w0 ι (h.set n (some b')) (w.setRow (ι.blk n) cs') := by
  have hn : n < h.length := (List.getElem?_eq_some_iff.1 hb).1
  have hnK := (H.blocks n b hb).1
  obtain ⟨_, ⟨cur, hcur, _⟩, _⟩ := H.blocks n b hb
  refine ⟨H.os, H.tape, H.output, ?_, ?_, H.old, ?_, ?_, ?_, H.globs⟩
  · have := H.size; simpa [World.setRow] using this
  · intro k hk
    rw [setRow_other _ _ _ _ (by intro e; subst e; exact hnK hk)]
    exact H.kept k hk
  · intro a ha
    by_cases hab : a.block = ι.blk n
    · simp only [World.frozen?, hab, setRow_heap w _ cur cs' b.elem (0, 0) hcur]; simp
    · have := H.free a ha
      simp only [World.frozen?, setRow_other _ _ _ _ hab] at this ⊢
      exact this
  · intro m c hc
    rcases getElem?_set_cases hn hc with ⟨hm, hc'⟩ | ⟨rfl, rfl⟩
    · obtain ⟨k1, ⟨cs, k2, k3⟩, k4⟩ := H.blocks m c hc'
      refine ⟨k1, ⟨cs, ?_, k3⟩, by simpa using k4⟩
      rw [setRow_other _ _ _ _ (by intro e; exact hm (H.inj m n c b hc' hb e))]
      exact k2
    · refine ⟨hnK, ⟨cs', ?_, hf⟩, by simpa using hs⟩
      rw [setRow_heap w _ cur cs' b.elem (0, 0) hcur, he]
  · intro m1 m2 c1 c2 hc1 hc2 he'
    rcases getElem?_set_cases hn hc1 with ⟨_, h1⟩ | ⟨rfl, _⟩ <;> rcases getElem?_set_cases hn hc2 with ⟨_, h2⟩ | ⟨rfl, _⟩
    · exact H.inj m1 m2 c1 c2 h1 h2 he'
    · exact H.inj m1 m2 c1 b h1 hb he'
    · exact H.inj m1 m2 b c2 hb h2 he'
    · rfl

/-- A block gets another name. -/
theorem HR.move (H : HR ρ G K w0 ι h w) {n : Nat} {b : Blk} (hb : h[n]? = some (some b)) :
    HR ρ G K w0 (ι.put h.length (ι.blk n) (ι.cap n)) ((h.set n none) ++ [some b]) w := by
  have hn : n < h.length := (List.getElem?_eq_some_iff.1 hb).1
  let ι' : Nm := ι.put h.length (ι.blk n) (ι.cap n)
  have e : Nm.Ext h.length ι ι' := Nm.ext_put ι _ _ _
  have H' := H.ext e
  have hblkn : ι'.blk h.length = ι.blk n := by simp [ι', Nm.put]
  have hcapn : ι'.cap h.length = ι.cap n := by simp [ι', Nm.put]
  have key : ∀ m c, ((h.set n none) ++ [some b])[m]? = some (some c) → (m ≠ n ∧ h[m]? = some (some c)) ∨ (m = h.length ∧ c = b) := by
    intro m c hc
    rcases getElem?_append_new hc with h1 | ⟨h1, h2⟩
    · left
      by_cases hm : m = n
      · subst hm; rw [List.getElem?_set_self hn] at h1; simp at h1
      · rw [List.getElem?_set_ne (Ne.symm hm)] at h1; exact ⟨hm, h1⟩
    · right; exact ⟨by simpa using h1, h2⟩
  refine ⟨H.os, H.tape, H.output, H.size, H.kept, H.old, H.free, ?_, ?_, H'.globs⟩
  · intro m c hc
    rcases key m c hc with ⟨hm, h1⟩ | ⟨rfl, rfl⟩
    · obtain ⟨k1, k2, k3⟩ := H'.blocks m c h1
      exact ⟨k1, k2, SVal.sc_mono (by simp) _ k3⟩
    · obtain ⟨k1, ⟨cs, k2, k3⟩, k4⟩ := H.blocks n c hb
      refine ⟨?_, ⟨cs, ?_, ?_⟩, SVal.sc_mono (by simp) _ k4⟩
      · show ¬ K (ι'.blk h.length); rw [hblkn]; exact k1
      · show w.heap[ι'.blk h.length]? = _; rw [hblkn]; exact k2
      · show c.Fits ρ ι' (ι'.cap h.length) cs; rw [hcapn]; exact k3.ext e k4
  · intro m1 m2 c1 c2 hc1 hc2 he
    rcases key m1 c1 hc1 with ⟨hm1, h1⟩ | ⟨rfl, rfl⟩ <;> rcases key m2 c2 hc2 with ⟨hm2, h2⟩ | ⟨rfl, rfl⟩
    · exact H'.inj m1 m2 c1 c2 h1 h2 he
    · have he' : ι'.blk m1 = ι'.blk h.length := he
      rw [hblkn, (e m1 (List.getElem?_eq_some_iff.1 h1).1).1] at he'
      exact (hm1 (H.inj m1 n c1 c2 h1 hb he')).elim
    · have he' : ι'.blk h.length = ι'.blk m2 := he
      rw [hblkn, (e m2 (List.getElem?_eq_some_iff.1 h2).1).1] at he'
      exact (hm2 (H.inj m2 n c2 c1 h2 hb he'.symm)).elim
    · rfl

theorem concL_setCells' : ∀ {vs cs cs' : SVal} {i : Nat}, setCells cs i vs = some cs' → i ≤ cs.len →
    cs'.concL ρ ι = (cs.concL ρ ι).take i ++ vs.concL ρ ι ++ (cs.concL ρ ι).drop (i + vs.len) := by
  intro vs
  induction vs with
  | cons v r _ ih =>
    intro cs cs' i h hi
    simp only [setCells] at h
    split at h
    · rename_i u hu
      have hi' : i < cs.len := by
        have := SVal.concL_nth ρ ι cs i
        rw [hu] at this
        have := (List.getElem?_eq_some_iff.1 this).1
        rwa [SVal.concL_length] at this
      have hl : (cs.setAt i v).len = cs.len := by
        have := congrArg List.length (SVal.concL_setAt ρ ι cs i v)
        simpa [SVal.concL_length] using this
      rw [ih h (by omega), SVal.concL_setAt]
      have hlen := SVal.concL_length ρ ι cs
      generalize cs.concL ρ ι = l at *
      simp only [SVal.concL, SVal.len]
      have h1 : (l.set i (v.conc ρ ι)).take (i + 1) = l.take i ++ [v.conc ρ ι] := by
        rw [List.take_add_one, List.take_set_of_le (by omega)]
        simp [List.getElem?_set_self (show i < l.length by omega)]
      have h2 : (l.set i (v.conc ρ ι)).drop (i + 1 + r.len) = l.drop (i + (r.len + 1)) := by
        rw [List.drop_set_of_lt (by omega)]
        congr 1; omega
      rw [h1, h2]
      simp
    · cases h
  | _ =>
    intro cs cs' i h hi
    simp only [setCells, Option.some.injEq] at h
    subst h
    simp [SVal.concL, SVal.len]

theorem one_conc {v : SVal} (h : v.one = true) : (v.conc ρ ι).oneCell' = true := by
  cases v <;> simp_all [SVal.one, SVal.conc, Value.oneCell']

theorem allOne_conc : ∀ {l : SVal}, l.allOne = true → ∀ u ∈ l.concL ρ ι, u.oneCell' = true := by
  intro l
  induction l with
  | cons a r _ ih =>
    intro h u hu
    simp only [SVal.allOne, Bool.and_eq_true] at h
    simp only [SVal.concL, List.mem_cons] at hu
    rcases hu with rfl | hu
    · exact one_conc h.1
    · exact ih h.2 u hu
  | _ => intro h u hu; simp [SVal.concL] at hu

/-- What an operation on the heap does. -/
def HeapStep (ρ : Env) (G : Globs) (K : Nat → Prop) (w0 : World) (P : Program) (ι : Nm) (h : Heap) (w : World) (s : Sem Next) (v : SVal) (h' : Heap) : Prop :=
  ∃ (ι' : Nm) (w' : World) (x : Next), s.run P w = .ok x w' ∧ (x = .value (v.conc ρ ι') ∨ (x = .skip ∧ v = undefS)) ∧ Nm.Ext h.length ι ι' ∧ h.length ≤ h'.length ∧ HR ρ G K w0 ι' h' w' ∧ v.sc h'.length = true

theorem sliceCells_spec {z : Nat} {s l : SVal} (H : HR ρ G K w0 ι h w) (hs : sliceCells h z s = some l) :
    l.len = s.sliceLen * z ∧ l.sc h.length = true ∧ (∀ b off n c, s = .slice b off n c → ∀ j v, (l.concL ρ ι)[j]? = some v → w.cell? ((⟨ι.blk b, off, none⟩ : Addr).add j) = some v) := by
  unfold sliceCells at hs
  split at hs
  · rename_i b off n c
    split at hs
    · rename_i blk hb
      split at hs
      · rename_i hle
        have hle := Nat.le_of_ble_eq_true hle
        simp only [Option.some.injEq] at hs; subst hs
        refine ⟨?_, SVal.sc_takeN _ _ (SVal.sc_dropN _ _ (H.blocks _ _ hb).2.2), ?_⟩
        · have := SVal.concL_length ρ ι ((blk.cells.dropN off).takeN (n * z))
          rw [SVal.concL_takeN, SVal.concL_dropN] at this
          simp [SVal.concL_length] at this
          simp only [SVal.sliceLen]; omega
        · rintro b' off' n' c' ⟨⟩ j v hv
          rw [addr_add]
          refine H.cellsAt hb _ _ ?_
          rw [SVal.concL_takeN, SVal.concL_dropN, List.getElem?_take] at hv
          split at hv
          · rw [List.getElem?_drop] at hv; exact hv
          · cases hv
      · cases hs
    · cases hs
  · simp at hs; subst hs
    exact ⟨by simp [SVal.len, SVal.sliceLen], rfl, by rintro _ _ _ _ ⟨⟩⟩
  · cases hs

theorem HR.drew1 (H : HR ρ G K w0 ι h w) : HR ρ G K w0 ι h w.drew := H.drew _

theorem le_grownCap (w : World) (need old : Nat) (e : TypeId) : need ≤ grownCap w need old e := by
  simp only [grownCap, Question.cut]; omega

theorem run_appendT (H : HR ρ G K w0 ι h w) {t : TypeId} {s x v : SVal} {h' : Heap} (ty : TypeId) (ha : appendT P h t s x = some (v, h')) :
    ∃ (ι' : Nm) (w' : World), (Builtin.append_ #[t, t] ty #[s.conc ρ ι, x.conc ρ ι]).run P w = .ok (v.conc ρ ι') w' ∧ Nm.Ext h.length ι ι' ∧ h.length ≤ h'.length ∧ HR ρ G K w0 ι' h' w' ∧ v.sc h'.length = true := by
  unfold appendT at ha
  split at ha
  · rename_i e hu
    split at ha
    · rename_i i hi
      split at ha
      · rename_i zv hzv
        split at ha
        · rename_i old new hold hnew
          split at ha
          · rename_i bx offx m cx'
            split at ha
            · cases ha
            · rename_i hcond
              simp only [Bool.and_eq_true] at hcond
              obtain ⟨⟨⟨⟨⟨hm, h48⟩, h63⟩, hzs⟩, hsz⟩, hone⟩ := hcond
              have hm : 0 < m := Nat.lt_of_succ_le (Nat.le_of_ble_eq_true hm)
              have h48 := Nat.le_of_ble_eq_true h48
              have h63 := Nat.le_of_ble_eq_true h63
              have hzs := Nat.eq_of_beq_eq_true hzs
              have hsz : 0 < i.size := Nat.lt_of_succ_le (Nat.le_of_ble_eq_true hsz)
              obtain ⟨o1, o2, o3⟩ := sliceCells_spec H hold
              obtain ⟨n1, n2, n3⟩ := sliceCells_spec H hnew
              have n3' := n3 bx offx m cx' rfl
              simp only [SVal.sliceLen] at n1
              have hln : (new.concL ρ ι).length = m * i.size := by rw [SVal.concL_length]; exact n1
              have hsc : (old.app new).sc h.length = true := SVal.sc_app _ _ o2 n2
              have grown : ∀ (cap' : Nat) (need : Nat), need = s.sliceLen + m → need ≤ cap' →
                  HR ρ G K w0 (ι.put h.length w.heap.size cap') (h ++ [some { cells := old.app new, elem := e, spare := some i.size }])
                    (w.drew.alloc (.cells ((old.concL ρ ι).toArray ++ (new.concL ρ ι).toArray ++ Builtin.zeroCells zv.cells (cap' - need)) e)) := by
                intro cap' need hneed hcap
                refine HR.alloc (b := { cells := old.app new, elem := e, spare := some i.size }) H.drew1 _ cap' hsc ?_
                refine ⟨⟨(Builtin.zeroCells zv.cells (cap' - need)).toList, by simp [SVal.concL_app]⟩, ?_⟩
                simp only [Array.size_append, List.size_toArray, size_zeroCells, SVal.concL_length, o1, n1, hzs]
                rw [← Nat.add_mul, ← hneed, ← Nat.add_mul]
                congr 1; omega
              cases s with
              | nilslice =>
                simp only [Option.some.injEq, Prod.mk.injEq] at ha
                obtain ⟨rfl, rfl⟩ := ha
                simp only [SVal.sliceLen, Nat.zero_mul, Nat.zero_add] at *
                have hold0 : old.concL ρ ι = [] := by
                  have := SVal.concL_length ρ ι old
                  rw [o1] at this
                  exact List.length_eq_zero_iff.1 this
                have hr := run_append_nil (P := P) w t ty e i zv hu hi hzv ⟨ι.blk bx, offx, none⟩ m (cx'.ev ι) (new.concL ρ ι) hln n3' hm (by omega) (by
                  have : m * i.bytes ≤ 2 * m * i.bytes := Nat.mul_le_mul_right _ (by omega)
                  omega)
                have hg := grown (grownCap w m 0 e) m rfl (le_grownCap w m 0 e)
                rw [hold0] at hg
                simp only [Array.empty_append] at hg
                refine ⟨_, _, ?_, Nm.ext_put ι _ _ _, by simp, hg, by simp [SVal.sc]⟩
                simp only [SVal.conc]
                rw [hr]
                simp [Cap.ev, Nm.put]
              | slice bs offs n cap =>
               cases cap with
               | known c =>
                simp only at ha
                split at ha
                · rename_i hlt
                  have hlt : c < n + m := Nat.lt_of_succ_le (Nat.le_of_ble_eq_true hlt)
                  simp only [Option.some.injEq, Prod.mk.injEq] at ha
                  obtain ⟨rfl, rfl⟩ := ha
                  simp only [SVal.sliceLen] at *
                  have hlo : (old.concL ρ ι).length = n * i.size := by rw [SVal.concL_length]; exact o1
                  have hcap := nextslicecap_le hlt
                  have hr := run_append_grow (P := P) w t ty e i zv hu hi hzv ⟨ι.blk bs, offs, none⟩ n c (old.concL ρ ι) hlo (o3 _ _ _ _ rfl) ⟨ι.blk bx, offx, none⟩ m (cx'.ev ι) (new.concL ρ ι) hln n3' hlt (by omega) (by
                    have : Builtin.nextslicecap (n + m) c * i.bytes ≤ 2 * (n + m) * i.bytes := Nat.mul_le_mul_right _ hcap
                    omega)
                  have hg := grown (grownCap w (n + m) c e) (n + m) rfl (le_grownCap w (n + m) c e)
                  refine ⟨_, _, ?_, Nm.ext_put ι _ _ _, by simp, hg, by simp [SVal.sc]⟩
                  simp only [SVal.conc]
                  rw [show Cap.ev ι (Cap.known c) = c from rfl, hr]
                  simp [Nm.put, Cap.ev]
                · cases ha
               | of b' =>
                cases offs with
                | succ q => simp at ha
                | zero =>
                simp only at ha
                split at ha
                · rename_i ob hbb hob
                  have hbb := Nat.eq_of_beq_eq_true hbb
                  subst hbb
                  split at ha
                  · rename_i z' hsp
                    split at ha
                    · rename_i hcond2
                      simp only [Bool.and_eq_true] at hcond2
                      obtain ⟨⟨hz', hoblen⟩, hobe⟩ := hcond2
                      have hz' := Nat.eq_of_beq_eq_true hz'
                      have hoblen := Nat.eq_of_beq_eq_true hoblen
                      have hobe := Nat.eq_of_beq_eq_true hobe
                      simp only [Option.some.injEq, Prod.mk.injEq] at ha
                      obtain ⟨rfl, rfl⟩ := ha
                      simp only [SVal.sliceLen] at *
                      have hbs : bs < h.length := (List.getElem?_eq_some_iff.1 hob).1
                      have hlo : (old.concL ρ ι).length = n * i.size := by rw [SVal.concL_length]; exact o1
                      have hle2 : h.length ≤ (h.set bs none ++ [some ({ cells := old.app new, elem := e, spare := some i.size } : Blk)]).length := by simp
                      by_cases hroom : n + m ≤ ι.cap bs
                      · obtain ⟨k1, ⟨cur, k2, k3⟩, k4⟩ := H.blocks bs ob hob
                        unfold Blk.Fits at k3
                        rw [hsp] at k3
                        simp only at k3
                        obtain ⟨⟨rest, hrest⟩, hsize⟩ := k3
                        rw [← hz'] at hsize
                        rw [hobe] at k2
                        have hfit : n * i.size + (new.concL ρ ι).length ≤ cur.size := by
                          rw [hln, hsize, ← Nat.add_mul]
                          exact Nat.mul_le_mul_right _ hroom
                        have hr := run_append_room (P := P) w t ty e i hu hi (ι.blk bs) n (ι.cap bs) cur k2 ⟨ι.blk bx, offx, none⟩ m (cx'.ev ι) (new.concL ρ ι) hln n3' (allOne_conc hone) hroom hfit
                        have hold' : old.concL ρ ι = ob.cells.concL ρ ι := by
                          simp only [sliceCells, hob] at hold
                          split at hold
                          · simp only [Option.some.injEq] at hold
                            rw [← hold, SVal.concL_takeN, SVal.concL_dropN, ← hoblen]
                            rw [List.drop_zero, List.take_of_length_le (by rw [SVal.concL_length]; exact Nat.le_refl _)]
                          · cases hold
                        have htake : cur.toList.take (n * i.size) = old.concL ρ ι := by
                          rw [hrest, hold', List.take_append_of_le_length (by rw [SVal.concL_length]; omega), List.take_of_length_le (by rw [SVal.concL_length]; omega)]
                        rw [htake] at hr
                        have H2 := H.row hob (b' := { cells := old.app new, elem := e, spare := some i.size }) hobe.symm
                          ((old.concL ρ ι ++ new.concL ρ ι ++ cur.toList.drop (n * i.size + (new.concL ρ ι).length)).toArray)
                          (by
                            refine ⟨⟨cur.toList.drop (n * i.size + (new.concL ρ ι).length), by simp [SVal.concL_app]⟩, ?_⟩
                            rw [← hsize]
                            simp only [List.size_toArray, List.length_append, List.length_drop, Array.length_toList, hlo]
                            omega) hsc
                        have hob2 : (h.set bs (some ({ cells := old.app new, elem := e, spare := some i.size } : Blk)))[bs]? = some (some { cells := old.app new, elem := e, spare := some i.size }) := by simp [hbs]
                        have H3 := H2.move hob2
                        simp only [List.length_set, List.set_set] at H3
                        refine ⟨_, _, ?_, Nm.ext_put ι _ _ _, hle2, H3, by simp [SVal.sc]⟩
                        simp only [SVal.conc]
                        rw [show Cap.ev ι (Cap.of bs) = ι.cap bs from rfl, hr]
                        simp [Nm.put, Cap.ev]
                      · have hlt : ι.cap bs < n + m := by omega
                        have hcap := nextslicecap_le hlt
                        have hr := run_append_grow (P := P) w t ty e i zv hu hi hzv ⟨ι.blk bs, 0, none⟩ n (ι.cap bs) (old.concL ρ ι) hlo (o3 _ _ _ _ rfl) ⟨ι.blk bx, offx, none⟩ m (cx'.ev ι) (new.concL ρ ι) hln n3' hlt (by omega) (by
                          have : Builtin.nextslicecap (n + m) (ι.cap bs) * i.bytes ≤ 2 * (n + m) * i.bytes := Nat.mul_le_mul_right _ hcap
                          omega)
                        have hg := grown (grownCap w (n + m) (ι.cap bs) e) (n + m) rfl (le_grownCap w (n + m) (ι.cap bs) e)
                        have hg2 := hg.forget (h' := h.set bs none ++ [some { cells := old.app new, elem := e, spare := some i.size }]) (by
                          intro k b hk
                          rcases getElem?_append_new hk with h1 | ⟨h1, h2⟩
                          · by_cases hkb : k = bs
                            · subst hkb; rw [List.getElem?_set_self hbs] at h1; simp at h1
                            · rw [List.getElem?_set_ne (Ne.symm hkb)] at h1
                              exact ⟨by rw [List.getElem?_append_left (List.getElem?_eq_some_iff.1 h1).1]; exact h1, by
                                have := (H.blocks k b h1).2.2
                                exact SVal.sc_mono (by simp) _ this⟩
                          · subst h2
                            simp only [List.length_set] at h1
                            subst h1
                            exact ⟨by simp, SVal.sc_mono (by simp) _ hsc⟩)
                        refine ⟨_, _, ?_, Nm.ext_put ι _ _ _, hle2, hg2, by simp [SVal.sc]⟩
                        simp only [SVal.conc]
                        rw [show Cap.ev ι (Cap.of bs) = ι.cap bs from rfl, hr]
                        simp [Nm.put, Cap.ev]
                    · cases ha
                  · cases ha
                · cases ha
              | _ => simp at ha
          · cases ha
        · cases ha
      · cases ha
    · cases ha
  · cases ha

theorem repeatS_concL (z : SVal) : ∀ n : Nat, (repeatS z n).concL ρ ι = (List.replicate n (z.concL ρ ι)).flatten
  | 0 => by simp [repeatS, SVal.concL]
  | n + 1 => by simp [repeatS, SVal.concL_app, repeatS_concL z n, List.replicate_succ]

theorem repeatS_sc {z : SVal} {k : Nat} (hz : z.sc k = true) : ∀ n : Nat, (repeatS z n).sc k = true
  | 0 => rfl
  | n + 1 => SVal.sc_app _ _ hz (repeatS_sc hz n)

theorem flatten_replicate_getElem? (l : List Value) : ∀ (n i : Nat), i < n * l.length → ((List.replicate n l).flatten)[i]? = l[i % l.length]?
  | 0, i, h => by simp at h
  | n + 1, i, h => by
    rw [List.replicate_succ, List.flatten_cons]
    by_cases hi : i < l.length
    · rw [List.getElem?_append_left hi, Nat.mod_eq_of_lt hi]
    · rw [List.getElem?_append_right (by omega), flatten_replicate_getElem? l n (i - l.length) (by rw [Nat.succ_mul] at h; omega)]
      congr 1
      rw [Nat.mod_eq_sub_mod (by omega : i ≥ l.length)]

theorem run_heapOp {cx : Cx} {slots : Slots} {a : Act} {o : Oper} {v : SVal} {h' : Heap} (hp : heapOp cx slots h o = some (v, h')) (hs : SlotsOk ρ ι h.length slots a) (H : HR ρ cx.globs K w0 ι h w) :
    HeapStep ρ cx.globs K w0 cx.P ι h w (execOp a.eval o) v h' := by
  unfold heapOp at hp
  unfold HeapStep execOp
  split at hp
  · -- alloc
    rename_i e ho
    split at hp
    · rename_i z hz
      simp only [Option.some.injEq, Prod.mk.injEq] at hp
      obtain ⟨rfl, rfl⟩ := hp
      obtain ⟨z1, z2, z3⟩ := zeroT_conc (ρ := ρ) (ι := ι) w hz
      have hzc := cells_conc' (ρ := ρ) (ι := ι) z z3
      have hg := HR.alloc (b := { cells := z.cellsOf, elem := e, spare := none }) H (z.cellsOf.concL ρ ι).toArray 0 (SVal.sc_mono (Nat.zero_le _) _ (cellsOf_sc z2)) (by simp [Blk.Fits])
      refine ⟨_, _, _, ?_, .inl rfl, Nm.ext_put ι _ _ _, by simp, hg, by simp [SVal.sc]⟩
      simp only [ho, Instr.alloc, Sem.run_bind, z1, Result.andThen_ok, newVar, newRow, hzc]
      simp [SVal.conc, Nm.put]
    · cases hp
  · rename_i e x ho
    split at hp
    · rename_i u hu
      split at hp
      · rename_i hpl
        simp only [Option.some.injEq, Prod.mk.injEq] at hp
        obtain ⟨rfl, rfl⟩ := hp
        obtain ⟨h1, h2⟩ := evO_conc hs hu
        have hzc := cells_conc' (ρ := ρ) (ι := ι) u hpl
        have hg := HR.alloc (b := { cells := u.cellsOf, elem := e, spare := none }) H (u.cellsOf.concL ρ ι).toArray 0 (cellsOf_sc h2) (by simp [Blk.Fits])
        refine ⟨_, _, _, ?_, .inl rfl, Nm.ext_put ι _ _ _, by simp, hg, by simp [SVal.sc]⟩
        simp only [ho, Instr.box, Sem.run_bind, newVar, newRow, h1, hzc]
        simp [SVal.conc, Nm.put]
      · cases hp
    · cases hp
  · rename_i t n parts ho
    split at hp
    · rename_i e ps hu hps
      split at hp
      · rename_i z zv hz hzv
        split at hp
        · rename_i hcond
          simp only [Bool.and_eq_true] at hcond
          obtain ⟨⟨h24, hzl⟩, hz0⟩ := hcond
          have h24 := Nat.le_of_ble_eq_true h24
          have hzl := Nat.eq_of_beq_eq_true hzl
          have hz0 : 0 < z := Nat.lt_of_succ_le (Nat.le_of_ble_eq_true hz0)
          split at hp
          · rename_i cells hf
            simp only [Option.some.injEq, Prod.mk.injEq] at hp
            obtain ⟨rfl, rfl⟩ := hp
            obtain ⟨h1, h2⟩ := evParts_conc hs hps
            obtain ⟨z1, z2, z3⟩ := zeroT_conc (ρ := ρ) (ι := ι) w hzv
            have hzc := cells_conc' (ρ := ρ) (ι := ι) zv z3
            obtain ⟨f1, f2⟩ := fillT_conc (ρ := ρ) (ι := ι) hf
            have hcs := f2 h.length (repeatS_sc (SVal.sc_mono (Nat.zero_le _) _ (cellsOf_sc z2)) n) h2
            have hg := HR.alloc (b := { cells := cells, elem := e, spare := none }) H (cells.concL ρ ι).toArray 0 hcs (by simp [Blk.Fits])
            refine ⟨_, _, _, ?_, .inl rfl, Nm.ext_put ι _ _ _, by simp, hg, by simp [SVal.sc]⟩
            have hpe : (parts.map fun x => match x with | (i, x) => (i, a.eval x)).toList = ps.map fun p => (p.1, p.2.conc ρ ι) := by
              rw [← h1]; simp
            have hll : (zv.cellsOf.concL ρ ι).length = z := by rw [SVal.concL_length]; exact hzl
            have hinit : ((Array.range (n * z)).map fun i => (zv.cellsOf.concL ρ ι).toArray[i % (zv.cellsOf.concL ρ ι).toArray.size]!) = ((repeatS zv.cellsOf n).concL ρ ι).toArray := by
              apply Array.ext'
              apply List.ext_getElem?
              intro k
              rw [repeatS_concL]
              by_cases hk : k < n * z
              · rw [flatten_replicate_getElem? _ n k (by rw [hll]; exact hk), hll]
                have hmod : k % z < (zv.cellsOf.concL ρ ι).length := by rw [hll]; exact Nat.mod_lt _ hz0
                simp [hk, hll]
                rw [List.getElem?_eq_getElem hmod]
                simp
              · rw [List.getElem?_eq_none (by simp; omega), List.getElem?_eq_none (by simp [hll]; omega)]
            simp only [ho, Instr.buildSlice, Sem.run_bind, run_underlying hu, Result.andThen_ok, run_sizeT w hz]
            rw [if_neg (by omega)]
            by_cases hnz : n * z = 0
            · have hn0 : n = 0 := by
                rcases Nat.mul_eq_zero.1 hnz with h | h
                · exact h
                · omega
              subst hn0
              simp only [repeatS, SVal.concL] at f1
              have hr0 : Array.range 0 = #[] := rfl
              simp only [Nat.zero_mul, if_true, Sem.run_bind, Sem.run_pure, Result.andThen_ok, hpe, hr0, Array.map_empty, f1]
              simp [SVal.conc, Nm.put, newRow, Cap.ev]
            · simp only [Sem.run_pure, Result.andThen_ok, Sem.run_bind, hnz, if_false, z1, hzc, hinit, hpe, f1]
              simp [SVal.conc, Nm.put, newRow, Cap.ev]
          · cases hp
        · cases hp
      · cases hp
    · cases hp
  · rename_i t x y ho
    split at hp
    · rename_i b off u hx hy
      split at hp
      · rename_i blk z hb hz
        split at hp
        · rename_i hcond
          simp only [Bool.and_eq_true] at hcond
          obtain ⟨⟨hl, hone⟩, hpl⟩ := hcond
          have hl := Nat.eq_of_beq_eq_true hl
          split at hp
          · rename_i cells hset
            simp only [Option.some.injEq, Prod.mk.injEq] at hp
            obtain ⟨rfl, rfl⟩ := hp
            obtain ⟨h1, _⟩ := evO_conc hs hx
            obtain ⟨h3, h4⟩ := evO_conc hs hy
            simp only [SVal.conc] at h1
            have hzc := cells_conc' (ρ := ρ) (ι := ι) u hpl
            obtain ⟨k1, ⟨cur, k2, k3⟩, k4⟩ := H.blocks b blk hb
            obtain ⟨_, c2, c3, c4⟩ := concL_setCells (ρ := ρ) (ι := ι) hset
            obtain ⟨rest, hrest⟩ := k3.starts
            have hcl : blk.cells.len ≤ cur.size := by
              have := congrArg List.length hrest
              simp [SVal.concL_length] at this
              omega
            by_cases hz0 : z = 0
            · subst hz0
              have hnil : u.cellsOf.concL ρ ι = [] := List.length_eq_zero_iff.1 (by rw [SVal.concL_length]; exact hl)
              have hcells : cells = blk.cells := by
                have hu0 : ∀ q q', u.cellsOf ≠ .cons q q' := by intro q q' e; rw [e] at hl; simp [SVal.len] at hl
                cases huc : u.cellsOf <;> first | (exact (hu0 _ _ huc).elim) | (rw [huc] at hset; simp only [setCells, Option.some.injEq] at hset; exact hset.symm)
              subst hcells
              refine ⟨ι, w, .skip, ?_, .inr ⟨rfl, rfl⟩, Nm.Ext.refl _ _, by simp, ?_, by simp [undefS, SVal.sc]⟩
              · simp only [ho, h1, h3, Instr.storeAt, Instr.sureAddr, Sem.run_bind, Sem.run_pure, Result.andThen_ok, storeVar, run_sizeT w hz, hzc, hnil]
                simp [storeCells]
              · have : h.set b (some { blk with cells := blk.cells }) = h := by
                  apply List.ext_getElem?
                  intro k
                  by_cases hk : b = k
                  · subst hk
                    rw [List.getElem?_set_self (List.getElem?_eq_some_iff.1 hb).1, hb]
                  · rw [List.getElem?_set_ne hk]
                rw [this]; exact H
            · have hfit : off + z ≤ blk.cells.len := by rcases c4 with c4 | c4 <;> omega
              have hcl' := concL_setCells' (ρ := ρ) (ι := ι) hset (by omega)
              have hst := run_storeCells_at cx.P (ι.blk b) off blk.elem (u.cellsOf.concL ρ ι) 0 cur w k2 (by rw [SVal.concL_length]; omega) (allOne_conc hone)
              simp only [Nat.add_zero] at hst
              have H2 := H.row hb (b' := { blk with cells := cells }) rfl
                ((cur.toList.take off ++ u.cellsOf.concL ρ ι ++ cur.toList.drop (off + (u.cellsOf.concL ρ ι).length)).toArray) (by
                  have e1 : cur.toList.take off = (blk.cells.concL ρ ι).take off := by rw [hrest, List.take_append_of_le_length (by rw [SVal.concL_length]; omega)]
                  have e2 : cur.toList.drop (off + (u.cellsOf.concL ρ ι).length) = (blk.cells.concL ρ ι).drop (off + u.cellsOf.len) ++ rest := by
                    rw [hrest, SVal.concL_length, List.drop_append_of_le_length (by rw [SVal.concL_length]; omega)]
                  have e3 : cur.toList.take off ++ u.cellsOf.concL ρ ι ++ cur.toList.drop (off + (u.cellsOf.concL ρ ι).length) = cells.concL ρ ι ++ rest := by
                    rw [e1, e2, hcl']; simp
                  rw [e3]
                  unfold Blk.Fits at k3 ⊢
                  simp only
                  cases hsp : blk.spare with
                  | none =>
                    rw [hsp] at k3
                    simp only at k3 ⊢
                    rw [hrest] at k3
                    have : rest = [] := by
                      have := congrArg List.length k3
                      simp at this
                      exact this
                    simp [this]
                  | some q =>
                    rw [hsp] at k3
                    simp only at k3 ⊢
                    refine ⟨⟨rest, by simp⟩, ?_⟩
                    rw [← k3.2]
                    have := congrArg List.length hrest
                    simp [SVal.concL_length] at this
                    simp [SVal.concL_length, c2]
                    omega) (c3 _ k4 (cellsOf_sc h4))
              refine ⟨ι, _, .skip, ?_, .inr ⟨rfl, rfl⟩, Nm.Ext.refl _ _, by simp, H2, by simp [undefS, SVal.sc]⟩
              simp only [ho, h1, h3, Instr.storeAt, Instr.sureAddr, Sem.run_bind, Sem.run_pure, Result.andThen_ok, storeVar, run_sizeT w hz, hzc]
              rw [if_neg (by simp [SVal.concL_length, hl])]
              rw [hst]
              rfl
          · cases hp
        · cases hp
      · cases hp
    · cases hp
  · rename_i c ho
    split at hp
    · rename_i hcal
      split at hp
      · rename_i s x t u hargs htys
        split at hp
        · rename_i sv xv hsv hxv htu
          have htu := Nat.eq_of_beq_eq_true htu
          subst htu
          obtain ⟨h1, _⟩ := evO_conc hs hsv
          obtain ⟨h3, _⟩ := evO_conc hs hxv
          obtain ⟨ι', w', r1, r2, r3, r4, r5⟩ := run_appendT (ρ := ρ) (P := cx.P) H o.type hp
          have e1 : c.args = #[s, x] := by apply Array.ext'; simpa using hargs
          have e2 : c.argTypes = #[t, t] := by apply Array.ext'; simpa using htys
          refine ⟨ι', w', _, ?_, .inl rfl, r2, r3, r4, r5⟩
          simp only [ho, resolve, hcal, e1, e2]
          simp [invoke, builtin, h1, h3, r1]
        · cases hp
      · cases hp
    · cases hp
  · cases hp

end
end Go.Sx
