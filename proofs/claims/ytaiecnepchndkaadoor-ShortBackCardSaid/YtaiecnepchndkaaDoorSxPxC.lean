/- The decider's operations are right. -/
import Derived.Test.YtaiecnepchndkaaDoorSxPxB
namespace Go.Sx

section
variable {ρ : Env}

theorem has_signed {k : IntKind} (hs : k.signed = true) {l : List Lit} {t : Lit} (h : l.length < k.bits) : kHas k (wval ρ l t) := by
  have hr := wval_range ρ t l
  have hp : (2 : Int) ^ l.length ≤ 2 ^ (k.bits - 1) := pow_mono_int (by omega)
  unfold kHas
  simp only [hs]
  omega

theorem has_unsigned {k : IntKind} (hs : k.signed = false) {l : List Lit} {t : Lit} (h : l.length ≤ k.bits) (ht : t.val ρ = false) : kHas k (wval ρ l t) := by
  have hr := wval_range ρ t l
  have hp : (2 : Int) ^ l.length ≤ 2 ^ k.bits := pow_mono_int h
  have hn := wval_nonneg ρ ht l
  unfold kHas
  simp only [hs]
  omega

theorem fitW_parts {k : IntKind} {w : Wd} (h : fitW k w = true) : (k.signed = true ∧ w.1.length < k.bits) ∨ (k.signed = false ∧ w.1.length ≤ k.bits ∧ w.2 = .c false) := by
  unfold fitW at h
  cases hs : k.signed <;> simp only [hs] at h
  · simp only [Bool.and_eq_true, decide_eq_true_eq] at h
    exact .inr ⟨rfl, Nat.le_of_ble_eq_true h.1, h.2⟩
  · simp only [Nat.blt_eq] at h; exact .inl ⟨rfl, h⟩

theorem fitW_has {k : IntKind} {w : Wd} (h : fitW k w = true) : kHas k (wval ρ w.1 w.2) := by
  rcases fitW_parts h with ⟨hs, h⟩ | ⟨hs, h, ht⟩
  · exact has_signed hs h
  · exact has_unsigned hs h (by rw [ht]; rfl)

def BOp.fn : BOp → Bool → Bool → Bool
  | .and => fun a b => a && b
  | .or => fun a b => a || b
  | .xor => fun a b => a != b

theorem Lit.val_c (b : Bool) : (Lit.c b).val ρ = b := rfl

theorem litOp_val {o : BOp} {a b t : Lit} (h : litOp o a b = some t) : t.val ρ = o.fn (a.val ρ) (b.val ρ) := by
  unfold litOp at h
  split at h
  · simp only [Option.some.injEq] at h; subst h; simp [BOp.fn, Lit.val_c]
  · simp only [Option.some.injEq] at h; subst h; simp [BOp.fn, Lit.val_c]
  · simp only [Option.some.injEq] at h; subst h; simp [BOp.fn, Lit.val_c]
  · simp only [Option.some.injEq] at h; subst h; simp [BOp.fn, Lit.val_c]
  · split at h
    · rename_i e; subst e; simp only [Option.some.injEq] at h; subst h; simp [BOp.fn]
    · split at h
      · rename_i e; subst e; simp only [Option.some.injEq] at h; subst h; simp only [BOp.fn, Lit.neg_val, Lit.val_c]; cases b.val ρ <;> rfl
      · cases h
  · simp only [Option.some.injEq] at h; subst h; simp [BOp.fn, Lit.val_c]
  · simp only [Option.some.injEq] at h; subst h; simp [BOp.fn, Lit.val_c]
  · simp only [Option.some.injEq] at h; subst h; simp [BOp.fn, Lit.val_c]
  · simp only [Option.some.injEq] at h; subst h; simp [BOp.fn, Lit.val_c]
  · split at h
    · rename_i e; subst e; simp only [Option.some.injEq] at h; subst h; simp [BOp.fn]
    · split at h
      · rename_i e; subst e; simp only [Option.some.injEq] at h; subst h; simp only [BOp.fn, Lit.neg_val, Lit.val_c]; cases b.val ρ <;> rfl
      · cases h
  · rename_i c d; simp only [Option.some.injEq] at h; subst h; simp only [Lit.flip_val, BOp.fn, Lit.val_c]; cases d <;> cases b.val ρ <;> rfl
  · rename_i c d; simp only [Option.some.injEq] at h; subst h; simp only [Lit.flip_val, BOp.fn, Lit.val_c]
  · split at h
    · rename_i e; subst e; simp only [Option.some.injEq] at h; subst h; simp [BOp.fn, Lit.val_c]
    · split at h
      · rename_i e; subst e; simp only [Option.some.injEq] at h; subst h; simp only [BOp.fn, Lit.neg_val, Lit.val_c]; cases b.val ρ <;> rfl
      · cases h

theorem Ask.bind_ok {α β : Type} {a : Ask α} {f : α → Ask β} {b : β} (h : a.bind f = .ok b) : ∃ x, a = .ok x ∧ f x = .ok b := by
  cases a with
  | ok x => exact ⟨x, rfl, h⟩
  | ask s => cases h
  | fail => cases h

theorem askL_ok {α : Type} {t : Lit} {a : α} : askL t ≠ .ok a := by cases t <;> simp [askL]

theorem zipB_val {o : BOp} {ta tb t : Lit} (ht : litOp o ta tb = some t) : ∀ (lb l : List Lit), zipB o ta lb = .ok l →
    l.length = lb.length ∧ ∀ i, (l.getD i t).val ρ = o.fn (ta.val ρ) ((lb.getD i tb).val ρ)
  | [], l, h => by
    simp only [zipB, Ask.ok.injEq] at h; subst h
    exact ⟨rfl, fun i => by simp only [List.getD_nil]; exact litOp_val ht⟩
  | b :: lb, l, h => by
    unfold zipB at h
    split at h
    · rename_i u hu
      obtain ⟨l', h1, h2⟩ := Ask.bind_ok h
      simp only [Ask.ok.injEq] at h2; subst h2
      obtain ⟨e1, e2⟩ := zipB_val ht lb l' h1
      refine ⟨by simp [e1], ?_⟩
      intro i
      cases i with
      | zero => simpa using litOp_val hu
      | succ i => simpa using e2 i
    · exact (askL_ok h).elim

theorem zipOp_val {o : BOp} {ta tb t : Lit} (ht : litOp o ta tb = some t) : ∀ (la lb l : List Lit), zipOp o ta tb la lb = .ok l →
    l.length = max la.length lb.length ∧ ∀ i, (l.getD i t).val ρ = o.fn ((la.getD i ta).val ρ) ((lb.getD i tb).val ρ)
  | [], lb, l, h => by
    unfold zipOp at h
    obtain ⟨e1, e2⟩ := zipB_val (ρ := ρ) ht lb l h
    exact ⟨by simp [e1], fun i => by simpa using e2 i⟩
  | a :: la, [], l, h => by
    unfold zipOp at h
    split at h
    · rename_i u hu
      obtain ⟨l', h1, h2⟩ := Ask.bind_ok h
      simp only [Ask.ok.injEq] at h2; subst h2
      obtain ⟨e1, e2⟩ := zipOp_val ht la [] l' h1
      refine ⟨by simp at e1 ⊢; omega, ?_⟩
      intro i
      cases i with
      | zero => simpa using litOp_val hu
      | succ i => simpa using e2 i
    · exact (askL_ok h).elim
  | a :: la, b :: lb, l, h => by
    unfold zipOp at h
    split at h
    · rename_i u hu
      obtain ⟨l', h1, h2⟩ := Ask.bind_ok h
      simp only [Ask.ok.injEq] at h2; subst h2
      obtain ⟨e1, e2⟩ := zipOp_val ht la lb l' h1
      refine ⟨by simp at e1 ⊢; omega, ?_⟩
      intro i
      cases i with
      | zero => simpa using litOp_val hu
      | succ i => simpa using e2 i
    · exact (askL_ok h).elim

theorem wordOp_rep {o : BOp} {k : IntKind} {a b : Wd} {v : V} (h : wordOp o k a b = .ok v) {s : Sc} (hz : kHas k s.asInt)
    (hb : ∀ i, i < k.bits → bitI s.asInt i = o.fn (bitI (wval ρ a.1 a.2) i) (bitI (wval ρ b.1 b.2) i)) : Rep ρ v s := by
  unfold wordOp at h
  split at h
  · cases h
  · rename_i hf
    simp only [Bool.and_eq_true] at hf
    split at h
    · exact (askL_ok h).elim
    · rename_i t ht
      obtain ⟨l, h1, h2⟩ := Ask.bind_ok h
      simp only [Ask.ok.injEq] at h2; subst h2
      obtain ⟨e1, e2⟩ := zipOp_val (ρ := ρ) ht _ _ _ h1
      refine mkW_rep ρ _ _ (eq_of_has hz ?_ ?_)
      · rcases fitW_parts hf.1 with ⟨hs, p⟩ | ⟨hs, p, pt⟩ <;> rcases fitW_parts hf.2 with ⟨hs', q⟩ | ⟨hs', q, qt⟩
        · exact has_signed hs (by simp only; omega)
        · rw [hs] at hs'; cases hs'
        · rw [hs] at hs'; cases hs'
        · refine has_unsigned hs (by simp only; omega) ?_
          rw [litOp_val ht, pt, qt]; cases o <;> rfl
      · intro i hi
        rw [hb i hi, wval_bit, wval_bit, wval_bit, e2 i]

theorem extL_len (t : Lit) : ∀ (k : Nat) (l : List Lit), (extL t k l).length = k
  | 0, _ => rfl
  | k + 1, [] => by simp [extL, extL_len t k]
  | k + 1, a :: l => by simp [extL, extL_len t k]

theorem extL_get (t : Lit) : ∀ (k : Nat) (l : List Lit) (i : Nat), i < k → (extL t k l)[i]? = some (l.getD i t)
  | 0, _, _, h => by omega
  | k + 1, [], 0, _ => by simp [extL]
  | k + 1, [], i + 1, h => by simp only [extL, List.getElem?_cons_succ]; rw [extL_get t k [] i (by omega)]; simp
  | k + 1, a :: l, 0, _ => by simp [extL]
  | k + 1, a :: l, i + 1, h => by simp only [extL, List.getElem?_cons_succ]; rw [extL_get t k l i (by omega)]; simp

theorem wrap_of_has {k : IntKind} {n : Int} (h : kHas k n) : k.wrap n = n := wrap_eq h (fun _ _ => rfl)

theorem wrapW_val (k : IntKind) (w : Wd) : wval ρ (wrapW k w).1 (wrapW k w).2 = k.wrap (wval ρ w.1 w.2) := by
  unfold wrapW
  split
  · rename_i h; exact (wrap_of_has (fitW_has h)).symm
  · have hb := bits_pos k
    split
    · rename_i hs
      symm
      refine wrap_eq (has_signed hs (by simp [extL_len]; omega)) ?_
      intro i hi
      rw [wval_bit, wval_bit]
      by_cases h : i < k.bits - 1
      · have : ((extL w.2 k.bits w.1).take (k.bits - 1))[i]? = some (w.1.getD i w.2) := by
          rw [List.getElem?_take, if_pos h]; exact extL_get _ _ _ _ hi
        rw [getD_get this]
      · rw [getD_over (by simp [extL_len]; omega)]
        have : i = k.bits - 1 := by omega
        subst this
        show ((extL w.2 k.bits w.1).getD (k.bits - 1) (Lit.c false)).val ρ = _
        rw [getD_get (extL_get _ _ _ _ hi)]
    · rename_i hs
      symm
      refine wrap_eq (has_unsigned hs (by simp [extL_len]) rfl) ?_
      intro i hi
      rw [wval_bit, wval_bit, getD_get (extL_get _ _ _ _ hi)]

def bi (ρ : Env) (t : Lit) : Int := if t.val ρ then 1 else 0

theorem bi_bound (t : Lit) : 0 ≤ bi ρ t ∧ bi ρ t ≤ 1 := by unfold bi; split <;> omega
theorem bi_neg (t : Lit) : bi ρ t.neg = 1 - bi ρ t := by unfold bi; rw [Lit.neg_val]; cases t.val ρ <;> simp
theorem bi_c (b : Bool) : bi ρ (.c b) = if b then 1 else 0 := rfl
theorem bi_flip (t : Lit) (b : Bool) : bi ρ (t.flip b) = if b then 1 - bi ρ t else bi ρ t := by cases b <;> simp [Lit.flip, bi_neg]

theorem add3_val {a b c s d : Lit} (h : add3 a b c = some (s, d)) : bi ρ a + bi ρ b + bi ρ c = bi ρ s + 2 * bi ρ d := by
  unfold add3 at h
  split at h
  · rename_i a b c
    simp only [Option.some.injEq, Prod.mk.injEq] at h; obtain ⟨rfl, rfl⟩ := h
    simp only [bi_c]; cases a <;> cases b <;> cases c <;> rfl
  · rename_i p q _
    simp only [Option.some.injEq, Prod.mk.injEq] at h; obtain ⟨rfl, rfl⟩ := h
    cases p <;> cases q <;> simp [bi_flip, bi_c] <;> omega
  · rename_i p q _
    simp only [Option.some.injEq, Prod.mk.injEq] at h; obtain ⟨rfl, rfl⟩ := h
    cases p <;> cases q <;> simp [bi_flip, bi_c] <;> omega
  · rename_i p q _
    simp only [Option.some.injEq, Prod.mk.injEq] at h; obtain ⟨rfl, rfl⟩ := h
    cases p <;> cases q <;> simp [bi_flip, bi_c] <;> omega
  · split at h
    · rename_i e; subst e; simp only [Option.some.injEq, Prod.mk.injEq] at h; obtain ⟨rfl, rfl⟩ := h; omega
    · split at h
      · rename_i e; subst e; simp only [Option.some.injEq, Prod.mk.injEq] at h; obtain ⟨rfl, rfl⟩ := h
        simp only [bi_neg, bi_c]; grind
      · cases h
  · split at h
    · rename_i e; subst e; simp only [Option.some.injEq, Prod.mk.injEq] at h; obtain ⟨rfl, rfl⟩ := h; omega
    · split at h
      · rename_i e; subst e; simp only [Option.some.injEq, Prod.mk.injEq] at h; obtain ⟨rfl, rfl⟩ := h
        simp only [bi_neg, bi_c]; grind
      · cases h
  · split at h
    · rename_i e; subst e; simp only [Option.some.injEq, Prod.mk.injEq] at h; obtain ⟨rfl, rfl⟩ := h; omega
    · split at h
      · rename_i e; subst e; simp only [Option.some.injEq, Prod.mk.injEq] at h; obtain ⟨rfl, rfl⟩ := h
        simp only [bi_neg, bi_c]; grind
      · cases h
  · cases h

theorem wval_cons (a : Lit) (l : List Lit) (t : Lit) : wval ρ (a :: l) t = 2 * wval ρ l t + bi ρ a := rfl
theorem wval_nil (t : Lit) : wval ρ [] t = - bi ρ t := by unfold wval bi; split <;> rfl
theorem wval_nil' (t : Lit) : wval ρ [] t = 2 * wval ρ [] t + bi ρ t := by rw [wval_nil]; omega

theorem askOne_ok {α : Type} {a b c : Lit} {x : α} : askOne a b c ≠ .ok x := by
  unfold askOne; split <;> simp

theorem addB_val {ta tb : Lit} : ∀ (lb : List Lit) (c : Lit) (w : Wd), addB ta tb lb c = .ok w → wval ρ w.1 w.2 = wval ρ [] ta + wval ρ lb tb + bi ρ c
  | [], c, w, h => by
    unfold addB at h
    split at h
    · rename_i s d h1
      split at h
      · rename_i s' d' h2
        simp only [Ask.ok.injEq] at h; subst h
        have e1 := add3_val (ρ := ρ) h1
        have e2 := add3_val (ρ := ρ) h2
        show wval ρ [s] s' = _
        rw [wval_cons, wval_nil, wval_nil, wval_nil]
        have := bi_bound (ρ := ρ) ta; have := bi_bound (ρ := ρ) tb; have := bi_bound (ρ := ρ) c
        have := bi_bound (ρ := ρ) s; have := bi_bound (ρ := ρ) d; have := bi_bound (ρ := ρ) s'; have := bi_bound (ρ := ρ) d'
        omega
      · exact (askOne_ok h).elim
    · exact (askOne_ok h).elim
  | b :: lb, c, w, h => by
    unfold addB at h
    split at h
    · rename_i s d h1
      obtain ⟨w', h2, h3⟩ := Ask.bind_ok h
      simp only [Ask.ok.injEq] at h3; subst h3
      have e1 := add3_val (ρ := ρ) h1
      have e2 := addB_val lb d w' h2
      rw [wval_cons, e2, wval_cons]
      have := wval_nil' (ρ := ρ) ta
      omega
    · exact (askOne_ok h).elim

theorem addL_val {ta tb : Lit} : ∀ (la lb : List Lit) (c : Lit) (w : Wd), addL ta tb la lb c = .ok w → wval ρ w.1 w.2 = wval ρ la ta + wval ρ lb tb + bi ρ c
  | [], lb, c, w, h => by
    unfold addL at h
    exact addB_val lb c w h
  | a :: la, [], c, w, h => by
    unfold addL at h
    split at h
    · rename_i s d h1
      obtain ⟨w', h2, h3⟩ := Ask.bind_ok h
      simp only [Ask.ok.injEq] at h3; subst h3
      have e1 := add3_val (ρ := ρ) h1
      have e2 := addL_val la [] d w' h2
      rw [wval_cons, e2, wval_cons]
      have := wval_nil' (ρ := ρ) tb
      omega
    · exact (askOne_ok h).elim
  | a :: la, b :: lb, c, w, h => by
    unfold addL at h
    split at h
    · rename_i s d h1
      obtain ⟨w', h2, h3⟩ := Ask.bind_ok h
      simp only [Ask.ok.injEq] at h3; subst h3
      have e1 := add3_val (ρ := ρ) h1
      have e2 := addL_val la lb d w' h2
      rw [wval_cons, e2, wval_cons, wval_cons]
      omega
    · exact (askOne_ok h).elim

theorem zerosL_val (t : Lit) : ∀ (n : Nat) (l : List Lit), wval ρ (zerosL n l) t = wval ρ l t * 2 ^ n
  | 0, l => by simp [zerosL]
  | n + 1, l => by
    rw [zerosL, wval_cons, zerosL_val t n l, bi_c, Int.pow_succ]
    simp only [Bool.false_eq_true, if_false, Int.add_zero]
    rw [← Int.mul_assoc (wval ρ l t), Int.mul_comm _ 2]

theorem drop_val (t : Lit) : ∀ (n : Nat) (l : List Lit), wval ρ (l.drop n) t = wval ρ l t / 2 ^ n
  | 0, l => by simp
  | n + 1, [] => by
    simp only [List.drop_nil]
    have := drop_val t n []
    simp only [List.drop_nil] at this
    rw [Int.pow_succ', ← Int.ediv_ediv_of_nonneg (by omega)]
    have e : wval ρ [] t / 2 = wval ρ [] t := by rw [wval_nil]; have := bi_bound (ρ := ρ) t; omega
    rw [e]; exact this
  | n + 1, a :: l => by
    rw [List.drop_succ_cons, drop_val t n l, wval_cons, Int.pow_succ', ← Int.ediv_ediv_of_nonneg (by omega)]
    congr 1
    have := bi_bound (ρ := ρ) a
    omega

theorem take_val : ∀ (n : Nat) (l : List Lit) (t : Lit), wval ρ (l.take n) (.c false) = (wval ρ l t) % 2 ^ n ∨ (l.length < n ∧ wval ρ (l.take n) (.c false) = wval ρ l (.c false))
  | 0, l, t => by left; simp [wval, Lit.val]
  | n + 1, [], t => by right; simp
  | n + 1, a :: l, t => by
    rcases take_val n l t with h | ⟨h1, h2⟩
    · left
      rw [List.take_succ_cons, wval_cons, h, wval_cons]
      have := bi_bound (ρ := ρ) a
      have hp : (0 : Int) < 2 ^ n := Int.pow_pos (by omega)
      have e : (2 * wval ρ l t + bi ρ a) = 2 * (wval ρ l t % 2 ^ n) + bi ρ a + 2 ^ (n + 1) * (wval ρ l t / 2 ^ n) := by
        have := Int.mul_ediv_add_emod (wval ρ l t) (2 ^ n)
        rw [Int.pow_succ', Int.mul_assoc]
        generalize (2 : Int) ^ n * (wval ρ l t / 2 ^ n) = z at *
        omega
      rw [e, Int.add_mul_emod_self_left]
      have h1 := Int.emod_nonneg (wval ρ l t) (Int.ne_of_gt hp)
      have h2 := Int.emod_lt_of_pos (wval ρ l t) hp
      rw [Int.emod_eq_of_lt (a := 2 * (wval ρ l t % 2 ^ n) + bi ρ a) (by omega) (by rw [Int.pow_succ']; omega)]
    · right
      exact ⟨by simpa using h1, by rw [List.take_succ_cons, wval_cons, h2, wval_cons]⟩

end
end Go.Sx
