/- The bits of masks. -/
import Derived.Test.YtnpfihlaocpcfaaGreatDoorSxPx
import Derived.Test.YtnpfihlaocpcfaaGreatDoorSxKb
namespace Go.Sx
noncomputable section

theorem bitOf_eq (m i : Nat) : bitOf m i = m.testBit i := by
  unfold bitOf Nat.testBit
  show Nat.beq ((m >>> i) &&& 1) 1 = _
  have h : (m >>> i) &&& 1 = (m >>> i) % 2 := Nat.and_one_is_mod _
  rw [Nat.and_comm 1, h]
  have : m >>> i % 2 = 0 ∨ m >>> i % 2 = 1 := by omega
  rcases this with h | h <;> rw [h] <;> rfl

end
end Go.Sx

/- What the decider's words mean. -/
namespace Go.Sx
noncomputable section

def Lit.val (ρ : Env) : Lit → Bool
  | .c b => b
  | .v x i n => (bitI (ρ.v x).asInt i != n)

theorem Lit.neg_val (ρ : Env) (t : Lit) : t.neg.val ρ = !t.val ρ := by
  cases t with
  | c b => rfl
  | v x i n => simp only [Lit.neg, Lit.val]; cases bitI (ρ.v x).asInt i <;> cases n <;> rfl

theorem Lit.flip_val (ρ : Env) (n : Bool) (t : Lit) : (t.flip n).val ρ = (t.val ρ != n) := by
  cases n
  · simp [Lit.flip]
  · simp [Lit.flip, Lit.neg_val]

def wval (ρ : Env) : List Lit → Lit → Int
  | [], t => if t.val ρ then -1 else 0
  | a :: l, t => 2 * wval ρ l t + (if a.val ρ then 1 else 0)

theorem wval_bit (ρ : Env) (t : Lit) : ∀ (l : List Lit) (i : Nat), bitI (wval ρ l t) i = (l.getD i t).val ρ
  | [], i => by
    simp only [wval, List.getD_nil]
    cases h : t.val ρ
    · have := bitI_high 0 0 i (by simp) (by simp) (Nat.zero_le _); simpa [h] using this
    · have := bitI_high (-1) 0 i (by simp) (by simp) (Nat.zero_le _); simpa [h] using this
  | a :: l, 0 => by rw [wval, bitI_two]; rfl
  | a :: l, i + 1 => by rw [wval, bitI_two_succ, wval_bit ρ t l i]; rfl

theorem wval_range (ρ : Env) (t : Lit) : ∀ (l : List Lit), -2 ^ l.length ≤ wval ρ l t ∧ wval ρ l t < 2 ^ l.length
  | [] => by simp only [wval, List.length_nil]; split <;> simp
  | a :: l => by
    obtain ⟨h1, h2⟩ := wval_range ρ t l
    simp only [wval, List.length_cons, Int.pow_succ]
    split <;> omega

theorem wval_nonneg (ρ : Env) {t : Lit} (ht : t.val ρ = false) : ∀ (l : List Lit), 0 ≤ wval ρ l t
  | [] => by simp [wval, ht]
  | a :: l => by have := wval_nonneg ρ ht l; simp only [wval]; split <;> omega

theorem wval_neg (ρ : Env) {t : Lit} (ht : t.val ρ = true) : ∀ (l : List Lit), wval ρ l t < 0
  | [] => by simp [wval, ht]
  | a :: l => by have := wval_neg ρ ht l; simp only [wval]; split <;> omega

theorem wval_congr (ρ : Env) {t u : Lit} (h : t.val ρ = u.val ρ) (f : Lit → Lit) (hf : ∀ a, (f a).val ρ = a.val ρ) : ∀ l : List Lit, wval ρ (l.map f) t = wval ρ l u
  | [] => by simp [wval, h]
  | a :: l => by simp only [List.map_cons, wval, hf, wval_congr ρ h f hf l]

/-- What is known of a number. -/
structure Rng.Ok (r : Rng) (n : Int) : Prop where
  lo : r.lo ≤ n
  hi : n ≤ r.hi
  ne : ∀ c ∈ r.ne, n ≠ c
  bits : ∀ i, i < 64 → r.km.testBit i = true → bitI n i = r.kv.testBit i
  sub : ∀ i, r.kv.testBit i = true → i < 64 ∧ r.km.testBit i = true
  km : r.km < 2 ^ 64
  low : -9223372036854775808 ≤ n
  high : n ≤ 9223372036854775807

theorem Rng.all_ok {n : Int} (h1 : -9223372036854775808 ≤ n) (h2 : n ≤ 9223372036854775807) : Rng.all.Ok n :=
  ⟨h1, h2, (by intro c hc; cases hc), (by intro i _ h; simp [Rng.all] at h), (by intro i h; simp [Rng.all] at h), (by decide), h1, h2⟩

def cntV (ρ : Env) : List Lit → Nat
  | [] => 0
  | t :: l => (if t.val ρ then 1 else 0) + cntV ρ l

structure Sat (ρ : Env) (e : Kn) : Prop where
  rs : ∀ x, (findR e.rs x).Ok (ρ.v x).asInt
  bs : ∀ x b, e.bs.lookup x = some b → (ρ.v x).asBool = b
  ls : ∀ x i t, (x, i, t) ∈ e.ls → bitI (ρ.v x).asInt i = t.val ρ
  cs : ∀ l a b, (l, a, b) ∈ e.cs → a ≤ cntV ρ l ∧ cntV ρ l ≤ b

theorem findL_mem : ∀ (l : List (Nat × Nat × Lit)) (x i : Nat) (t : Lit), findL l x i = some t → (x, i, t) ∈ l
  | [], _, _, _, h => by cases h
  | (y, j, u) :: l, x, i, t, h => by
    unfold findL at h
    split at h
    · rename_i hb
      simp only [Bool.and_eq_true] at hb
      have h1 := Nat.eq_of_beq_eq_true hb.1
      have h2 := Nat.eq_of_beq_eq_true hb.2
      simp at h; subst h1 h2 h; simp
    · exact List.mem_cons_of_mem _ (findL_mem l x i t h)

theorem natLen_lt (n : Nat) : n < 2 ^ natLen n := by
  cases n with
  | zero => simp [natLen]
  | succ n => exact Nat.lt_log2_self

theorem intLen_range (n : Int) : -2 ^ intLen n ≤ n ∧ n < 2 ^ intLen n := by
  cases n with
  | ofNat n => have := natLen_lt n; simp only [intLen]; have h : ((n : Nat) : Int) < 2 ^ natLen n := by exact_mod_cast this
               show -2 ^ natLen n ≤ (n : Int) ∧ (n : Int) < 2 ^ natLen n
               omega
  | negSucc n => have := natLen_lt n; simp only [intLen]; have h : ((n : Nat) : Int) < 2 ^ natLen n := by exact_mod_cast this
                 omega

theorem pow_mono_int {a b : Nat} (h : a ≤ b) : (2 : Int) ^ a ≤ 2 ^ b := by exact_mod_cast Nat.pow_le_pow_right (by omega) h

theorem Rng.Ok.len {r : Rng} {n : Int} (h : r.Ok n) : -2 ^ r.len ≤ n ∧ n < 2 ^ r.len := by
  have h1 := (intLen_range r.lo).1
  have h2 := (intLen_range r.hi).2
  have h3 : (2 : Int) ^ intLen r.lo ≤ 2 ^ r.len := pow_mono_int (Nat.le_max_left _ _)
  have h4 : (2 : Int) ^ intLen r.hi ≤ 2 ^ r.len := pow_mono_int (Nat.le_max_right _ _)
  have := h.lo
  have := h.hi
  omega

theorem Rng.Ok.sign {r : Rng} {n : Int} (h : r.Ok n) : bitI n 63 = decide (n < 0) :=
  bitI_high n 63 63 (by have := h.low; omega) (by have := h.high; omega) (Nat.le_refl _)

theorem Rng.Ok.far {r : Rng} {n : Int} (h : r.Ok n) {i : Nat} (hi : r.len ≤ i) : bitI n i = bitI n 63 := by
  rw [h.sign]; exact bitI_high n r.len i h.len.1 h.len.2 hi

theorem Rng.Ok.known {r : Rng} {n : Int} (h : r.Ok n) {i : Nat} (hb : bitOf r.km i = true) : bitI n i = bitOf r.kv i := by
  rw [bitOf_eq] at hb ⊢
  refine h.bits i ?_ hb
  by_cases hi : i < 64
  · exact hi
  · rw [Nat.testBit_lt_two_pow (Nat.lt_of_lt_of_le h.km (Nat.pow_le_pow_right (by omega) (by omega)))] at hb; cases hb

theorem resL_val {ρ : Env} {e : Kn} (S : Sat ρ e) : ∀ (k : Nat) (t : Lit), (resL e k t).val ρ = t.val ρ
  | 0, t => by unfold resL; rfl
  | k + 1, .c b => by unfold resL; rfl
  | k + 1, .v x i n => by
    have R := S.rs x
    unfold resL
    simp only
    split
    · rename_i h; simp only [Lit.val, R.known h]
    · have key : ∀ i', bitI (ρ.v x).asInt i' = bitI (ρ.v x).asInt i →
        (match bitOf (findR e.rs x).km i' with
        | true => Lit.c (bitOf (findR e.rs x).kv i' != n)
        | false => match e.ls with
          | [] => Lit.v x i' n
          | ls => match findL ls x i' with
            | some t => (resL e k t).flip n
            | none => Lit.v x i' n).val ρ = (Lit.v x i n).val ρ := by
        intro i' hi'
        split
        · rename_i h; simp only [Lit.val, ← R.known h, hi']
        · split
          · simp only [Lit.val, hi']
          · split
            · rename_i t ht
              have := S.ls x i' t (findL_mem _ _ _ _ ht)
              rw [Lit.flip_val, resL_val S k t, ← this, hi']; rfl
            · simp only [Lit.val, hi']
      cases hb : Nat.ble (findR e.rs x).len i
      · exact key i rfl
      · exact key 63 (R.far (Nat.le_of_ble_eq_true hb)).symm

/-- A value stands for a scalar. -/
def Rep (ρ : Env) : V → Sc → Prop
  | .num n, s => s.asInt = n
  | .bit b, s => s.asBool = b
  | .raw x, s => s = ρ.v x
  | .msk x m, s => 0 ≤ s.asInt ∧ m < 2 ^ 63 ∧ s.asInt < 2 ^ 63 ∧ ∀ i, bitI s.asInt i = (m.testBit i && bitI (ρ.v x).asInt i)
  | .wd l t, s => s.asInt = wval ρ l t
  | .cnt l, s => s.asInt = cntV ρ l
  | .top, _ => True

theorem natBits_val (ρ : Env) : ∀ (k n : Nat), n < 2 ^ k → wval ρ (natBits k n) (.c false) = n
  | 0, n, h => by simp [natBits, wval, Lit.val]; omega
  | k + 1, n, h => by
    have h2 : n / 2 < 2 ^ k := by rw [Nat.pow_succ] at h; omega
    have e : Nat.shiftRight n 1 = n / 2 := rfl
    simp only [natBits, wval, e, natBits_val ρ k (n / 2) h2, Lit.val, bitOf_eq, Nat.testBit_zero]
    have : n % 2 = 0 ∨ n % 2 = 1 := by omega
    rcases this with h | h <;> simp [h] <;> omega

theorem wval_map_neg (ρ : Env) (t : Lit) : ∀ l : List Lit, wval ρ (l.map Lit.neg) t.neg = -wval ρ l t - 1
  | [] => by simp only [List.map_nil, wval, Lit.neg_val]; cases t.val ρ <;> simp
  | a :: l => by
    simp only [List.map_cons, wval, wval_map_neg ρ t l, Lit.neg_val]
    cases a.val ρ <;> simp <;> omega

theorem numW_val (ρ : Env) (n : Int) : wval ρ (numW n).1 (numW n).2 = n := by
  cases n with
  | ofNat n => exact natBits_val ρ _ _ (natLen_lt n)
  | negSucc n =>
    have := wval_map_neg ρ (.c false) (natBits (natLen n) n)
    rw [natBits_val ρ _ _ (natLen_lt n)] at this
    simp only [numW]
    show wval ρ (List.map Lit.neg (natBits (natLen n) n)) (.c true) = _
    rw [show (Lit.c true) = (Lit.c false).neg from rfl, this]; omega

theorem rawBits_get {e : Kn} {x : Nat} : ∀ (k i j : Nat), j < k → (rawBits e x k i)[j]? = some (resL e 4 (.v x (i + j) false))
  | 0, _, _, h => by omega
  | k + 1, i, 0, _ => by simp [rawBits]
  | k + 1, i, j + 1, h => by
    simp only [rawBits, List.getElem?_cons_succ]
    rw [rawBits_get k (i + 1) j (by omega)]
    congr 3; omega

theorem rawBits_len {e : Kn} {x : Nat} : ∀ (k i : Nat), (rawBits e x k i).length = k
  | 0, _ => rfl
  | k + 1, i => by simp [rawBits, rawBits_len k]

theorem mskBits_get {e : Kn} {x m : Nat} : ∀ (k i j : Nat), j < k → (mskBits e x m k i)[j]? = some (match bitOf m (i + j) with | true => resL e 4 (.v x (i + j) false) | false => .c false)
  | 0, _, _, h => by omega
  | k + 1, i, 0, _ => by simp only [mskBits, List.getElem?_cons_zero, Nat.add_zero]; cases bitOf m i <;> rfl
  | k + 1, i, j + 1, h => by
    simp only [mskBits, List.getElem?_cons_succ]
    rw [mskBits_get k (i + 1) j (by omega)]
    rw [show i + 1 + j = i + (j + 1) by omega]

theorem mskBits_len {e : Kn} {x m : Nat} : ∀ (k i : Nat), (mskBits e x m k i).length = k
  | 0, _ => rfl
  | k + 1, i => by simp [mskBits, mskBits_len k]

/-- Whole numbers with the same bits, all of them, within some range. -/
theorem eq_of_all_bits {w : Nat} {x y : Int} (hx : -2 ^ w ≤ x ∧ x < 2 ^ w) (hy : -2 ^ w ≤ y ∧ y < 2 ^ w) (h : ∀ i, i ≤ w → bitI x i = bitI y i) : x = y := by
  have hs := h w (Nat.le_refl _)
  rw [bitI_high x w w hx.1 hx.2 (Nat.le_refl _), bitI_high y w w hy.1 hy.2 (Nat.le_refl _)] at hs
  have hs' : x < 0 ↔ y < 0 := decide_eq_decide.1 hs
  have e := mod_of_bits w x y (fun i hi => h i (by omega))
  have hp : (0 : Int) < 2 ^ w := Int.pow_pos (by omega)
  by_cases c : 0 ≤ x
  · rw [Int.emod_eq_of_lt c hx.2, Int.emod_eq_of_lt (by omega) hy.2] at e; exact e
  · rw [← Int.add_mul_emod_self_left x _ 1, Int.emod_eq_of_lt (by omega) (by omega), ← Int.add_mul_emod_self_left y _ 1, Int.emod_eq_of_lt (by omega) (by omega)] at e; omega

theorem getD_get {l : List Lit} {i : Nat} {t u : Lit} (h : l[i]? = some u) : l.getD i t = u := by simp [List.getD, h]
theorem getD_over {l : List Lit} {i : Nat} {t : Lit} (h : l.length ≤ i) : l.getD i t = t := by simp [List.getD, List.getElem?_eq_none h]

theorem toW_val {ρ : Env} {e : Kn} (S : Sat ρ e) {v : V} {s : Sc} {l : List Lit} {t : Lit} (hw : toW e v = some (l, t)) (hv : Rep ρ v s) : s.asInt = wval ρ l t := by
  cases v with
  | num n => simp only [toW, Option.some.injEq] at hw; rw [hv]; have := numW_val ρ n; rw [hw] at this; exact this.symm
  | bit b => simp [toW] at hw
  | raw x =>
    have hv' : s = ρ.v x := hv
    subst hv'
    simp only [toW, Option.some.injEq, Prod.mk.injEq] at hw
    obtain ⟨rfl, rfl⟩ := hw
    have R := S.rs x
    let w := (findR e.rs x).len
    have hl : (rawBits e x w 0).length = w := rawBits_len _ _
    have hr := wval_range ρ (resL e 4 (.v x 63 false)) (rawBits e x w 0)
    rw [hl] at hr
    refine eq_of_all_bits (w := w) R.len hr ?_
    intro i hi
    rw [wval_bit]
    by_cases h : i < w
    · rw [getD_get (rawBits_get w 0 i h), resL_val S]; simp [Lit.val]
    · rw [getD_over (by rw [rawBits_len]; exact Nat.not_lt.1 h), resL_val S, R.far (Nat.not_lt.1 h)]; simp [Lit.val]
  | msk x m =>
    obtain ⟨h1, h2, h3, h4⟩ := hv
    simp only [toW, Option.some.injEq, Prod.mk.injEq] at hw
    obtain ⟨rfl, rfl⟩ := hw
    have hl : (mskBits e x m (natLen m) 0).length = natLen m := mskBits_len _ _
    have hn := wval_nonneg ρ (t := .c false) rfl (mskBits e x m (natLen m) 0)
    have hr := (wval_range ρ (.c false) (mskBits e x m (natLen m) 0)).2
    have key : ∀ i, bitI s.asInt i = bitI (wval ρ (mskBits e x m (natLen m) 0) (.c false)) i := by
      intro i
      rw [wval_bit, h4 i]
      by_cases h : i < natLen m
      · rw [getD_get (mskBits_get _ 0 i h)]
        simp only [Nat.zero_add, bitOf_eq]
        cases m.testBit i
        · simp [Lit.val]
        · simp only [Bool.true_and]; rw [resL_val S]; simp [Lit.val]
      · rw [getD_over (by omega), Nat.testBit_lt_two_pow (Nat.lt_of_lt_of_le (natLen_lt m) (Nat.pow_le_pow_right (by omega) (by omega)))]
        simp [Lit.val]
    refine eq_of_bits (max 63 (natLen m)) _ _ h1 ?_ hn ?_ (fun i _ => key i)
    · exact Int.lt_of_lt_of_le h3 (pow_mono_int (Nat.le_max_left _ _))
    · rw [hl] at hr; exact Int.lt_of_lt_of_le hr (pow_mono_int (Nat.le_max_right _ _))
  | wd l' t' =>
    simp only [toW, Option.some.injEq, Prod.mk.injEq] at hw
    obtain ⟨rfl, rfl⟩ := hw
    have hv' : s.asInt = wval ρ l' t' := hv
    rw [hv']
    exact (wval_congr ρ (resL_val S 4 t') _ (resL_val S 4) l').symm
  | cnt l' => simp [toW] at hw
  | top => simp [toW] at hw

theorem constL_val (ρ : Env) : ∀ (l : List Lit) (b : Bool) (n : Int), constL l b = some n → wval ρ l (.c b) = n
  | [], b, n, h => by simp only [constL, Option.some.injEq] at h; subst h; cases b <;> simp [wval, Lit.val]
  | .c a :: l, b, n, h => by
    simp only [constL] at h
    split at h
    · rename_i m hm
      simp only [Option.some.injEq] at h; subst h
      rw [wval, constL_val ρ l b m hm]; cases a <;> simp [Lit.val]
    · cases h
  | .v _ _ _ :: _, _, _, h => by simp [constL] at h

theorem mkW_rep (ρ : Env) (w : Wd) (s : Sc) (h : s.asInt = wval ρ w.1 w.2) : Rep ρ (mkW w) s := by
  obtain ⟨l, t⟩ := w
  unfold mkW
  simp only at *
  cases t with
  | c b =>
    simp only
    split
    · rename_i n hn; exact h.trans (constL_val ρ l b n hn)
    · exact h
  | v x i n => exact h

end
end Go.Sx

/- The decider's operations are right. -/
namespace Go.Sx
noncomputable section

section
variable {ρ : Env}

theorem has_signed {k : IntKind} (hs : k.signed = true) {l : List Lit} {t : Lit} (h : l.length < k.bits) : kHas k (wval ρ l t) := by
  have hr := wval_range ρ t l
  have hp : (2 : Int) ^ l.length ≤ 2 ^ (k.bits - 1) := pow_mono_int (by omega)
  unfold kHas
  simp only [hs]
  omega

theorem has_unsigned {k : IntKind} (hs : k.signed = false) {l : List Lit} {t : Lit} (h : l.length ≤ k.bits) (ht : t.val ρ = false) : kHas k (wval ρ l t) := by
  have hr := wval_range ρ t l
  have hp : (2 : Int) ^ l.length ≤ 2 ^ k.bits := pow_mono_int h
  have hn := wval_nonneg ρ ht l
  unfold kHas
  simp only [hs]
  omega

theorem fitW_parts {k : IntKind} {w : Wd} (h : fitW k w = true) : (k.signed = true ∧ w.1.length < k.bits) ∨ (k.signed = false ∧ w.1.length ≤ k.bits ∧ w.2 = .c false) := by
  unfold fitW at h
  cases hs : k.signed <;> simp only [hs] at h
  · simp only [Bool.and_eq_true, decide_eq_true_eq] at h
    exact .inr ⟨rfl, Nat.le_of_ble_eq_true h.1, h.2⟩
  · simp only [Nat.blt_eq] at h; exact .inl ⟨rfl, h⟩

theorem fitW_has {k : IntKind} {w : Wd} (h : fitW k w = true) : kHas k (wval ρ w.1 w.2) := by
  rcases fitW_parts h with ⟨hs, h⟩ | ⟨hs, h, ht⟩
  · exact has_signed hs h
  · exact has_unsigned hs h (by rw [ht]; rfl)

def BOp.fn : BOp → Bool → Bool → Bool
  | .and => fun a b => a && b
  | .or => fun a b => a || b
  | .xor => fun a b => a != b

theorem Lit.val_c (b : Bool) : (Lit.c b).val ρ = b := rfl

theorem litOp_val {o : BOp} {a b t : Lit} (h : litOp o a b = some t) : t.val ρ = o.fn (a.val ρ) (b.val ρ) := by
  unfold litOp at h
  split at h
  · simp only [Option.some.injEq] at h; subst h; simp [BOp.fn, Lit.val_c]
  · simp only [Option.some.injEq] at h; subst h; simp [BOp.fn, Lit.val_c]
  · simp only [Option.some.injEq] at h; subst h; simp [BOp.fn, Lit.val_c]
  · simp only [Option.some.injEq] at h; subst h; simp [BOp.fn, Lit.val_c]
  · split at h
    · rename_i e; subst e; simp only [Option.some.injEq] at h; subst h; simp [BOp.fn]
    · split at h
      · rename_i e; subst e; simp only [Option.some.injEq] at h; subst h; simp only [BOp.fn, Lit.neg_val, Lit.val_c]; cases b.val ρ <;> rfl
      · cases h
  · simp only [Option.some.injEq] at h; subst h; simp [BOp.fn, Lit.val_c]
  · simp only [Option.some.injEq] at h; subst h; simp [BOp.fn, Lit.val_c]
  · simp only [Option.some.injEq] at h; subst h; simp [BOp.fn, Lit.val_c]
  · simp only [Option.some.injEq] at h; subst h; simp [BOp.fn, Lit.val_c]
  · split at h
    · rename_i e; subst e; simp only [Option.some.injEq] at h; subst h; simp [BOp.fn]
    · split at h
      · rename_i e; subst e; simp only [Option.some.injEq] at h; subst h; simp only [BOp.fn, Lit.neg_val, Lit.val_c]; cases b.val ρ <;> rfl
      · cases h
  · rename_i c d; simp only [Option.some.injEq] at h; subst h; simp only [Lit.flip_val, BOp.fn, Lit.val_c]; cases d <;> cases b.val ρ <;> rfl
  · rename_i c d; simp only [Option.some.injEq] at h; subst h; simp only [Lit.flip_val, BOp.fn, Lit.val_c]
  · split at h
    · rename_i e; subst e; simp only [Option.some.injEq] at h; subst h; simp [BOp.fn, Lit.val_c]
    · split at h
      · rename_i e; subst e; simp only [Option.some.injEq] at h; subst h; simp only [BOp.fn, Lit.neg_val, Lit.val_c]; cases b.val ρ <;> rfl
      · cases h

theorem Ask.bind_ok {α β : Type} {a : Ask α} {f : α → Ask β} {b : β} (h : a.bind f = .ok b) : ∃ x, a = .ok x ∧ f x = .ok b := by
  cases a with
  | ok x => exact ⟨x, rfl, h⟩
  | ask s => cases h
  | fail => cases h

theorem askL_ok {α : Type} {t : Lit} {a : α} : askL t ≠ .ok a := by cases t <;> simp [askL]

theorem zipB_val {o : BOp} {ta tb t : Lit} (ht : litOp o ta tb = some t) : ∀ (lb l : List Lit), zipB o ta lb = .ok l →
    l.length = lb.length ∧ ∀ i, (l.getD i t).val ρ = o.fn (ta.val ρ) ((lb.getD i tb).val ρ)
  | [], l, h => by
    simp only [zipB, Ask.ok.injEq] at h; subst h
    exact ⟨rfl, fun i => by simp only [List.getD_nil]; exact litOp_val ht⟩
  | b :: lb, l, h => by
    unfold zipB at h
    split at h
    · rename_i u hu
      obtain ⟨l', h1, h2⟩ := Ask.bind_ok h
      simp only [Ask.ok.injEq] at h2; subst h2
      obtain ⟨e1, e2⟩ := zipB_val ht lb l' h1
      refine ⟨by simp [e1], ?_⟩
      intro i
      cases i with
      | zero => simpa using litOp_val hu
      | succ i => simpa using e2 i
    · exact (askL_ok h).elim

theorem zipOp_val {o : BOp} {ta tb t : Lit} (ht : litOp o ta tb = some t) : ∀ (la lb l : List Lit), zipOp o ta tb la lb = .ok l →
    l.length = max la.length lb.length ∧ ∀ i, (l.getD i t).val ρ = o.fn ((la.getD i ta).val ρ) ((lb.getD i tb).val ρ)
  | [], lb, l, h => by
    unfold zipOp at h
    obtain ⟨e1, e2⟩ := zipB_val (ρ := ρ) ht lb l h
    exact ⟨by simp [e1], fun i => by simpa using e2 i⟩
  | a :: la, [], l, h => by
    unfold zipOp at h
    split at h
    · rename_i u hu
      obtain ⟨l', h1, h2⟩ := Ask.bind_ok h
      simp only [Ask.ok.injEq] at h2; subst h2
      obtain ⟨e1, e2⟩ := zipOp_val ht la [] l' h1
      refine ⟨by simp at e1 ⊢; omega, ?_⟩
      intro i
      cases i with
      | zero => simpa using litOp_val hu
      | succ i => simpa using e2 i
    · exact (askL_ok h).elim
  | a :: la, b :: lb, l, h => by
    unfold zipOp at h
    split at h
    · rename_i u hu
      obtain ⟨l', h1, h2⟩ := Ask.bind_ok h
      simp only [Ask.ok.injEq] at h2; subst h2
      obtain ⟨e1, e2⟩ := zipOp_val ht la lb l' h1
      refine ⟨by simp at e1 ⊢; omega, ?_⟩
      intro i
      cases i with
      | zero => simpa using litOp_val hu
      | succ i => simpa using e2 i
    · exact (askL_ok h).elim

theorem wordOp_rep {o : BOp} {k : IntKind} {a b : Wd} {v : V} (h : wordOp o k a b = .ok v) {s : Sc} (hz : kHas k s.asInt)
    (hb : ∀ i, i < k.bits → bitI s.asInt i = o.fn (bitI (wval ρ a.1 a.2) i) (bitI (wval ρ b.1 b.2) i)) : Rep ρ v s := by
  unfold wordOp at h
  split at h
  · cases h
  · rename_i hf
    simp only [Bool.and_eq_true] at hf
    split at h
    · exact (askL_ok h).elim
    · rename_i t ht
      obtain ⟨l, h1, h2⟩ := Ask.bind_ok h
      simp only [Ask.ok.injEq] at h2; subst h2
      obtain ⟨e1, e2⟩ := zipOp_val (ρ := ρ) ht _ _ _ h1
      refine mkW_rep ρ _ _ (eq_of_has hz ?_ ?_)
      · rcases fitW_parts hf.1 with ⟨hs, p⟩ | ⟨hs, p, pt⟩ <;> rcases fitW_parts hf.2 with ⟨hs', q⟩ | ⟨hs', q, qt⟩
        · exact has_signed hs (by simp only; omega)
        · rw [hs] at hs'; cases hs'
        · rw [hs] at hs'; cases hs'
        · refine has_unsigned hs (by simp only; omega) ?_
          rw [litOp_val ht, pt, qt]; cases o <;> rfl
      · intro i hi
        rw [hb i hi, wval_bit, wval_bit, wval_bit, e2 i]

theorem extL_len (t : Lit) : ∀ (k : Nat) (l : List Lit), (extL t k l).length = k
  | 0, _ => rfl
  | k + 1, [] => by simp [extL, extL_len t k]
  | k + 1, a :: l => by simp [extL, extL_len t k]

theorem extL_get (t : Lit) : ∀ (k : Nat) (l : List Lit) (i : Nat), i < k → (extL t k l)[i]? = some (l.getD i t)
  | 0, _, _, h => by omega
  | k + 1, [], 0, _ => by simp [extL]
  | k + 1, [], i + 1, h => by simp only [extL, List.getElem?_cons_succ]; rw [extL_get t k [] i (by omega)]; simp
  | k + 1, a :: l, 0, _ => by simp [extL]
  | k + 1, a :: l, i + 1, h => by simp only [extL, List.getElem?_cons_succ]; rw [extL_get t k l i (by omega)]; simp

theorem wrap_of_has {k : IntKind} {n : Int} (h : kHas k n) : k.wrap n = n := wrap_eq h (fun _ _ => rfl)

theorem wrapW_val (k : IntKind) (w : Wd) : wval ρ (wrapW k w).1 (wrapW k w).2 = k.wrap (wval ρ w.1 w.2) := by
  unfold wrapW
  split
  · rename_i h; exact (wrap_of_has (fitW_has h)).symm
  · have hb := bits_pos k
    split
    · rename_i hs
      symm
      refine wrap_eq (has_signed hs (by simp [extL_len]; omega)) ?_
      intro i hi
      rw [wval_bit, wval_bit]
      by_cases h : i < k.bits - 1
      · have : ((extL w.2 k.bits w.1).take (k.bits - 1))[i]? = some (w.1.getD i w.2) := by
          rw [List.getElem?_take, if_pos h]; exact extL_get _ _ _ _ hi
        rw [getD_get this]
      · rw [getD_over (by simp [extL_len]; omega)]
        have : i = k.bits - 1 := by omega
        subst this
        show ((extL w.2 k.bits w.1).getD (k.bits - 1) (Lit.c false)).val ρ = _
        rw [getD_get (extL_get _ _ _ _ hi)]
    · rename_i hs
      symm
      refine wrap_eq (has_unsigned hs (by simp [extL_len]) rfl) ?_
      intro i hi
      rw [wval_bit, wval_bit, getD_get (extL_get _ _ _ _ hi)]

def bi (ρ : Env) (t : Lit) : Int := if t.val ρ then 1 else 0

theorem bi_bound (t : Lit) : 0 ≤ bi ρ t ∧ bi ρ t ≤ 1 := by unfold bi; split <;> omega
theorem bi_neg (t : Lit) : bi ρ t.neg = 1 - bi ρ t := by unfold bi; rw [Lit.neg_val]; cases t.val ρ <;> simp
theorem bi_c (b : Bool) : bi ρ (.c b) = if b then 1 else 0 := rfl
theorem bi_flip (t : Lit) (b : Bool) : bi ρ (t.flip b) = if b then 1 - bi ρ t else bi ρ t := by cases b <;> simp [Lit.flip, bi_neg]

theorem add3_val {a b c s d : Lit} (h : add3 a b c = some (s, d)) : bi ρ a + bi ρ b + bi ρ c = bi ρ s + 2 * bi ρ d := by
  unfold add3 at h
  split at h
  · rename_i a b c
    simp only [Option.some.injEq, Prod.mk.injEq] at h; obtain ⟨rfl, rfl⟩ := h
    simp only [bi_c]; cases a <;> cases b <;> cases c <;> rfl
  · rename_i p q _
    simp only [Option.some.injEq, Prod.mk.injEq] at h; obtain ⟨rfl, rfl⟩ := h
    cases p <;> cases q <;> simp [bi_flip, bi_c] <;> omega
  · rename_i p q _
    simp only [Option.some.injEq, Prod.mk.injEq] at h; obtain ⟨rfl, rfl⟩ := h
    cases p <;> cases q <;> simp [bi_flip, bi_c] <;> omega
  · rename_i p q _
    simp only [Option.some.injEq, Prod.mk.injEq] at h; obtain ⟨rfl, rfl⟩ := h
    cases p <;> cases q <;> simp [bi_flip, bi_c] <;> omega
  · split at h
    · rename_i e; subst e; simp only [Option.some.injEq, Prod.mk.injEq] at h; obtain ⟨rfl, rfl⟩ := h; omega
    · split at h
      · rename_i e; subst e; simp only [Option.some.injEq, Prod.mk.injEq] at h; obtain ⟨rfl, rfl⟩ := h
        simp only [bi_neg, bi_c]; grind
      · cases h
  · split at h
    · rename_i e; subst e; simp only [Option.some.injEq, Prod.mk.injEq] at h; obtain ⟨rfl, rfl⟩ := h; omega
    · split at h
      · rename_i e; subst e; simp only [Option.some.injEq, Prod.mk.injEq] at h; obtain ⟨rfl, rfl⟩ := h
        simp only [bi_neg, bi_c]; grind
      · cases h
  · split at h
    · rename_i e; subst e; simp only [Option.some.injEq, Prod.mk.injEq] at h; obtain ⟨rfl, rfl⟩ := h; omega
    · split at h
      · rename_i e; subst e; simp only [Option.some.injEq, Prod.mk.injEq] at h; obtain ⟨rfl, rfl⟩ := h
        simp only [bi_neg, bi_c]; grind
      · cases h
  · cases h

theorem wval_cons (a : Lit) (l : List Lit) (t : Lit) : wval ρ (a :: l) t = 2 * wval ρ l t + bi ρ a := rfl
theorem wval_nil (t : Lit) : wval ρ [] t = - bi ρ t := by unfold wval bi; split <;> rfl
theorem wval_nil' (t : Lit) : wval ρ [] t = 2 * wval ρ [] t + bi ρ t := by rw [wval_nil]; omega

theorem askOne_ok {α : Type} {a b c : Lit} {x : α} : askOne a b c ≠ .ok x := by
  unfold askOne; split <;> simp

theorem addB_val {ta tb : Lit} : ∀ (lb : List Lit) (c : Lit) (w : Wd), addB ta tb lb c = .ok w → wval ρ w.1 w.2 = wval ρ [] ta + wval ρ lb tb + bi ρ c
  | [], c, w, h => by
    unfold addB at h
    split at h
    · rename_i s d h1
      split at h
      · rename_i s' d' h2
        simp only [Ask.ok.injEq] at h; subst h
        have e1 := add3_val (ρ := ρ) h1
        have e2 := add3_val (ρ := ρ) h2
        show wval ρ [s] s' = _
        rw [wval_cons, wval_nil, wval_nil, wval_nil]
        have := bi_bound (ρ := ρ) ta; have := bi_bound (ρ := ρ) tb; have := bi_bound (ρ := ρ) c
        have := bi_bound (ρ := ρ) s; have := bi_bound (ρ := ρ) d; have := bi_bound (ρ := ρ) s'; have := bi_bound (ρ := ρ) d'
        omega
      · exact (askOne_ok h).elim
    · exact (askOne_ok h).elim
  | b :: lb, c, w, h => by
    unfold addB at h
    split at h
    · rename_i s d h1
      obtain ⟨w', h2, h3⟩ := Ask.bind_ok h
      simp only [Ask.ok.injEq] at h3; subst h3
      have e1 := add3_val (ρ := ρ) h1
      have e2 := addB_val lb d w' h2
      rw [wval_cons, e2, wval_cons]
      have := wval_nil' (ρ := ρ) ta
      omega
    · exact (askOne_ok h).elim

theorem addL_val {ta tb : Lit} : ∀ (la lb : List Lit) (c : Lit) (w : Wd), addL ta tb la lb c = .ok w → wval ρ w.1 w.2 = wval ρ la ta + wval ρ lb tb + bi ρ c
  | [], lb, c, w, h => by
    unfold addL at h
    exact addB_val lb c w h
  | a :: la, [], c, w, h => by
    unfold addL at h
    split at h
    · rename_i s d h1
      obtain ⟨w', h2, h3⟩ := Ask.bind_ok h
      simp only [Ask.ok.injEq] at h3; subst h3
      have e1 := add3_val (ρ := ρ) h1
      have e2 := addL_val la [] d w' h2
      rw [wval_cons, e2, wval_cons]
      have := wval_nil' (ρ := ρ) tb
      omega
    · exact (askOne_ok h).elim
  | a :: la, b :: lb, c, w, h => by
    unfold addL at h
    split at h
    · rename_i s d h1
      obtain ⟨w', h2, h3⟩ := Ask.bind_ok h
      simp only [Ask.ok.injEq] at h3; subst h3
      have e1 := add3_val (ρ := ρ) h1
      have e2 := addL_val la lb d w' h2
      rw [wval_cons, e2, wval_cons, wval_cons]
      omega
    · exact (askOne_ok h).elim

theorem zerosL_val (t : Lit) : ∀ (n : Nat) (l : List Lit), wval ρ (zerosL n l) t = wval ρ l t * 2 ^ n
  | 0, l => by simp [zerosL]
  | n + 1, l => by
    rw [zerosL, wval_cons, zerosL_val t n l, bi_c, Int.pow_succ]
    simp only [Bool.false_eq_true, if_false, Int.add_zero]
    rw [← Int.mul_assoc (wval ρ l t), Int.mul_comm _ 2]

theorem drop_val (t : Lit) : ∀ (n : Nat) (l : List Lit), wval ρ (l.drop n) t = wval ρ l t / 2 ^ n
  | 0, l => by simp
  | n + 1, [] => by
    simp only [List.drop_nil]
    have := drop_val t n []
    simp only [List.drop_nil] at this
    rw [Int.pow_succ', ← Int.ediv_ediv_of_nonneg (by omega)]
    have e : wval ρ [] t / 2 = wval ρ [] t := by rw [wval_nil]; have := bi_bound (ρ := ρ) t; omega
    rw [e]; exact this
  | n + 1, a :: l => by
    rw [List.drop_succ_cons, drop_val t n l, wval_cons, Int.pow_succ', ← Int.ediv_ediv_of_nonneg (by omega)]
    congr 1
    have := bi_bound (ρ := ρ) a
    omega

theorem take_val : ∀ (n : Nat) (l : List Lit) (t : Lit), wval ρ (l.take n) (.c false) = (wval ρ l t) % 2 ^ n ∨ (l.length < n ∧ wval ρ (l.take n) (.c false) = wval ρ l (.c false))
  | 0, l, t => by left; simp [wval, Lit.val]
  | n + 1, [], t => by right; simp
  | n + 1, a :: l, t => by
    rcases take_val n l t with h | ⟨h1, h2⟩
    · left
      rw [List.take_succ_cons, wval_cons, h, wval_cons]
      have := bi_bound (ρ := ρ) a
      have hp : (0 : Int) < 2 ^ n := Int.pow_pos (by omega)
      have e : (2 * wval ρ l t + bi ρ a) = 2 * (wval ρ l t % 2 ^ n) + bi ρ a + 2 ^ (n + 1) * (wval ρ l t / 2 ^ n) := by
        have := Int.mul_ediv_add_emod (wval ρ l t) (2 ^ n)
        rw [Int.pow_succ', Int.mul_assoc]
        generalize (2 : Int) ^ n * (wval ρ l t / 2 ^ n) = z at *
        omega
      rw [e, Int.add_mul_emod_self_left]
      have h1 := Int.emod_nonneg (wval ρ l t) (Int.ne_of_gt hp)
      have h2 := Int.emod_lt_of_pos (wval ρ l t) hp
      rw [Int.emod_eq_of_lt (a := 2 * (wval ρ l t % 2 ^ n) + bi ρ a) (by omega) (by rw [Int.pow_succ']; omega)]
    · right
      exact ⟨by simpa using h1, by rw [List.take_succ_cons, wval_cons, h2, wval_cons]⟩

end
end
end Go.Sx
