/- What the decider's words mean. -/
import Derived.Test.YtaiecnepchndkaaDoorSxPxA
namespace Go.Sx

def Lit.val (ρ : Env) : Lit → Bool
  | .c b => b
  | .v x i n => (bitI (ρ.v x).asInt i != n)

theorem Lit.neg_val (ρ : Env) (t : Lit) : t.neg.val ρ = !t.val ρ := by
  cases t with
  | c b => rfl
  | v x i n => simp only [Lit.neg, Lit.val]; cases bitI (ρ.v x).asInt i <;> cases n <;> rfl

theorem Lit.flip_val (ρ : Env) (n : Bool) (t : Lit) : (t.flip n).val ρ = (t.val ρ != n) := by
  cases n
  · simp [Lit.flip]
  · simp [Lit.flip, Lit.neg_val]

def wval (ρ : Env) : List Lit → Lit → Int
  | [], t => if t.val ρ then -1 else 0
  | a :: l, t => 2 * wval ρ l t + (if a.val ρ then 1 else 0)

theorem wval_bit (ρ : Env) (t : Lit) : ∀ (l : List Lit) (i : Nat), bitI (wval ρ l t) i = (l.getD i t).val ρ
  | [], i => by
    simp only [wval, List.getD_nil]
    cases h : t.val ρ
    · have := bitI_high 0 0 i (by simp) (by simp) (Nat.zero_le _); simpa [h] using this
    · have := bitI_high (-1) 0 i (by simp) (by simp) (Nat.zero_le _); simpa [h] using this
  | a :: l, 0 => by rw [wval, bitI_two]; rfl
  | a :: l, i + 1 => by rw [wval, bitI_two_succ, wval_bit ρ t l i]; rfl

theorem wval_range (ρ : Env) (t : Lit) : ∀ (l : List Lit), -2 ^ l.length ≤ wval ρ l t ∧ wval ρ l t < 2 ^ l.length
  | [] => by simp only [wval, List.length_nil]; split <;> simp
  | a :: l => by
    obtain ⟨h1, h2⟩ := wval_range ρ t l
    simp only [wval, List.length_cons, Int.pow_succ]
    split <;> omega

theorem wval_nonneg (ρ : Env) {t : Lit} (ht : t.val ρ = false) : ∀ (l : List Lit), 0 ≤ wval ρ l t
  | [] => by simp [wval, ht]
  | a :: l => by have := wval_nonneg ρ ht l; simp only [wval]; split <;> omega

theorem wval_neg (ρ : Env) {t : Lit} (ht : t.val ρ = true) : ∀ (l : List Lit), wval ρ l t < 0
  | [] => by simp [wval, ht]
  | a :: l => by have := wval_neg ρ ht l; simp only [wval]; split <;> omega

theorem wval_congr (ρ : Env) {t u : Lit} (h : t.val ρ = u.val ρ) (f : Lit → Lit) (hf : ∀ a, (f a).val ρ = a.val ρ) : ∀ l : List Lit, wval ρ (l.map f) t = wval ρ l u
  | [] => by simp [wval, h]
  | a :: l => by simp only [List.map_cons, wval, hf, wval_congr ρ h f hf l]

/-- What is known of a number. -/
structure Rng.Ok (r : Rng) (n : Int) : Prop where
  lo : r.lo ≤ n
  hi : n ≤ r.hi
  ne : ∀ c ∈ r.ne, n ≠ c
  bits : ∀ i, i < 64 → r.km.testBit i = true → bitI n i = r.kv.testBit i
  sub : ∀ i, r.kv.testBit i = true → i < 64 ∧ r.km.testBit i = true
  km : r.km < 2 ^ 64
  low : -9223372036854775808 ≤ n
  high : n ≤ 9223372036854775807

theorem Rng.all_ok {n : Int} (h1 : -9223372036854775808 ≤ n) (h2 : n ≤ 9223372036854775807) : Rng.all.Ok n :=
  ⟨h1, h2, (by intro c hc; cases hc), (by intro i _ h; simp [Rng.all] at h), (by intro i h; simp [Rng.all] at h), (by decide), h1, h2⟩

def cntV (ρ : Env) : List Lit → Nat
  | [] => 0
  | t :: l => (if t.val ρ then 1 else 0) + cntV ρ l

structure Sat (ρ : Env) (e : Kn) : Prop where
  rs : ∀ x, (findR e.rs x).Ok (ρ.v x).asInt
  bs : ∀ x b, e.bs.lookup x = some b → (ρ.v x).asBool = b
  ls : ∀ x i t, (x, i, t) ∈ e.ls → bitI (ρ.v x).asInt i = t.val ρ
  cs : ∀ l a b, (l, a, b) ∈ e.cs → a ≤ cntV ρ l ∧ cntV ρ l ≤ b

theorem findL_mem : ∀ (l : List (Nat × Nat × Lit)) (x i : Nat) (t : Lit), findL l x i = some t → (x, i, t) ∈ l
  | [], _, _, _, h => by cases h
  | (y, j, u) :: l, x, i, t, h => by
    unfold findL at h
    split at h
    · rename_i hb
      simp only [Bool.and_eq_true] at hb
      have h1 := Nat.eq_of_beq_eq_true hb.1
      have h2 := Nat.eq_of_beq_eq_true hb.2
      simp at h; subst h1 h2 h; simp
    · exact List.mem_cons_of_mem _ (findL_mem l x i t h)

theorem natLen_lt (n : Nat) : n < 2 ^ natLen n := by
  cases n with
  | zero => simp [natLen]
  | succ n => exact Nat.lt_log2_self

theorem intLen_range (n : Int) : -2 ^ intLen n ≤ n ∧ n < 2 ^ intLen n := by
  cases n with
  | ofNat n => have := natLen_lt n; simp only [intLen]; have h : ((n : Nat) : Int) < 2 ^ natLen n := by exact_mod_cast this
               show -2 ^ natLen n ≤ (n : Int) ∧ (n : Int) < 2 ^ natLen n
               omega
  | negSucc n => have := natLen_lt n; simp only [intLen]; have h : ((n : Nat) : Int) < 2 ^ natLen n := by exact_mod_cast this
                 omega

theorem pow_mono_int {a b : Nat} (h : a ≤ b) : (2 : Int) ^ a ≤ 2 ^ b := by exact_mod_cast Nat.pow_le_pow_right (by omega) h

theorem Rng.Ok.len {r : Rng} {n : Int} (h : r.Ok n) : -2 ^ r.len ≤ n ∧ n < 2 ^ r.len := by
  have h1 := (intLen_range r.lo).1
  have h2 := (intLen_range r.hi).2
  have h3 : (2 : Int) ^ intLen r.lo ≤ 2 ^ r.len := pow_mono_int (Nat.le_max_left _ _)
  have h4 : (2 : Int) ^ intLen r.hi ≤ 2 ^ r.len := pow_mono_int (Nat.le_max_right _ _)
  have := h.lo
  have := h.hi
  omega

theorem Rng.Ok.sign {r : Rng} {n : Int} (h : r.Ok n) : bitI n 63 = decide (n < 0) :=
  bitI_high n 63 63 (by have := h.low; omega) (by have := h.high; omega) (Nat.le_refl _)

theorem Rng.Ok.far {r : Rng} {n : Int} (h : r.Ok n) {i : Nat} (hi : r.len ≤ i) : bitI n i = bitI n 63 := by
  rw [h.sign]; exact bitI_high n r.len i h.len.1 h.len.2 hi

theorem Rng.Ok.known {r : Rng} {n : Int} (h : r.Ok n) {i : Nat} (hb : bitOf r.km i = true) : bitI n i = bitOf r.kv i := by
  rw [bitOf_eq] at hb ⊢
  refine h.bits i ?_ hb
  by_cases hi : i < 64
  · exact hi
  · rw [Nat.testBit_lt_two_pow (Nat.lt_of_lt_of_le h.km (Nat.pow_le_pow_right (by omega) (by omega)))] at hb; cases hb

theorem resL_val {ρ : Env} {e : Kn} (S : Sat ρ e) : ∀ (k : Nat) (t : Lit), (resL e k t).val ρ = t.val ρ
  | 0, t => by unfold resL; rfl
  | k + 1, .c b => by unfold resL; rfl
  | k + 1, .v x i n => by
    have R := S.rs x
    unfold resL
    simp only
    split
    · rename_i h; simp only [Lit.val, R.known h]
    · have key : ∀ i', bitI (ρ.v x).asInt i' = bitI (ρ.v x).asInt i →
        (match bitOf (findR e.rs x).km i' with
        | true => Lit.c (bitOf (findR e.rs x).kv i' != n)
        | false => match e.ls with
          | [] => Lit.v x i' n
          | ls => match findL ls x i' with
            | some t => (resL e k t).flip n
            | none => Lit.v x i' n).val ρ = (Lit.v x i n).val ρ := by
        intro i' hi'
        split
        · rename_i h; simp only [Lit.val, ← R.known h, hi']
        · split
          · simp only [Lit.val, hi']
          · split
            · rename_i t ht
              have := S.ls x i' t (findL_mem _ _ _ _ ht)
              rw [Lit.flip_val, resL_val S k t, ← this, hi']; rfl
            · simp only [Lit.val, hi']
      cases hb : Nat.ble (findR e.rs x).len i
      · exact key i rfl
      · exact key 63 (R.far (Nat.le_of_ble_eq_true hb)).symm

/-- A value stands for a scalar. -/
def Rep (ρ : Env) : V → Sc → Prop
  | .num n, s => s.asInt = n
  | .bit b, s => s.asBool = b
  | .raw x, s => s = ρ.v x
  | .msk x m, s => 0 ≤ s.asInt ∧ m < 2 ^ 63 ∧ s.asInt < 2 ^ 63 ∧ ∀ i, bitI s.asInt i = (m.testBit i && bitI (ρ.v x).asInt i)
  | .wd l t, s => s.asInt = wval ρ l t
  | .cnt l, s => s.asInt = cntV ρ l
  | .top, _ => True

theorem natBits_val (ρ : Env) : ∀ (k n : Nat), n < 2 ^ k → wval ρ (natBits k n) (.c false) = n
  | 0, n, h => by simp [natBits, wval, Lit.val]; omega
  | k + 1, n, h => by
    have h2 : n / 2 < 2 ^ k := by rw [Nat.pow_succ] at h; omega
    have e : Nat.shiftRight n 1 = n / 2 := rfl
    simp only [natBits, wval, e, natBits_val ρ k (n / 2) h2, Lit.val, bitOf_eq, Nat.testBit_zero]
    have : n % 2 = 0 ∨ n % 2 = 1 := by omega
    rcases this with h | h <;> simp [h] <;> omega

theorem wval_map_neg (ρ : Env) (t : Lit) : ∀ l : List Lit, wval ρ (l.map Lit.neg) t.neg = -wval ρ l t - 1
  | [] => by simp only [List.map_nil, wval, Lit.neg_val]; cases t.val ρ <;> simp
  | a :: l => by
    simp only [List.map_cons, wval, wval_map_neg ρ t l, Lit.neg_val]
    cases a.val ρ <;> simp <;> omega

theorem numW_val (ρ : Env) (n : Int) : wval ρ (numW n).1 (numW n).2 = n := by
  cases n with
  | ofNat n => exact natBits_val ρ _ _ (natLen_lt n)
  | negSucc n =>
    have := wval_map_neg ρ (.c false) (natBits (natLen n) n)
    rw [natBits_val ρ _ _ (natLen_lt n)] at this
    simp only [numW]
    show wval ρ (List.map Lit.neg (natBits (natLen n) n)) (.c true) = _
    rw [show (Lit.c true) = (Lit.c false).neg from rfl, this]; omega

theorem rawBits_get {e : Kn} {x : Nat} : ∀ (k i j : Nat), j < k → (rawBits e x k i)[j]? = some (resL e 4 (.v x (i + j) false))
  | 0, _, _, h => by omega
  | k + 1, i, 0, _ => by simp [rawBits]
  | k + 1, i, j + 1, h => by
    simp only [rawBits, List.getElem?_cons_succ]
    rw [rawBits_get k (i + 1) j (by omega)]
    congr 3; omega

theorem rawBits_len {e : Kn} {x : Nat} : ∀ (k i : Nat), (rawBits e x k i).length = k
  | 0, _ => rfl
  | k + 1, i => by simp [rawBits, rawBits_len k]

theorem mskBits_get {e : Kn} {x m : Nat} : ∀ (k i j : Nat), j < k → (mskBits e x m k i)[j]? = some (match bitOf m (i + j) with | true => resL e 4 (.v x (i + j) false) | false => .c false)
  | 0, _, _, h => by omega
  | k + 1, i, 0, _ => by simp only [mskBits, List.getElem?_cons_zero, Nat.add_zero]; cases bitOf m i <;> rfl
  | k + 1, i, j + 1, h => by
    simp only [mskBits, List.getElem?_cons_succ]
    rw [mskBits_get k (i + 1) j (by omega)]
    rw [show i + 1 + j = i + (j + 1) by omega]

theorem mskBits_len {e : Kn} {x m : Nat} : ∀ (k i : Nat), (mskBits e x m k i).length = k
  | 0, _ => rfl
  | k + 1, i => by simp [mskBits, mskBits_len k]

/-- Whole numbers with the same bits, all of them, within some range. -/
theorem eq_of_all_bits {w : Nat} {x y : Int} (hx : -2 ^ w ≤ x ∧ x < 2 ^ w) (hy : -2 ^ w ≤ y ∧ y < 2 ^ w) (h : ∀ i, i ≤ w → bitI x i = bitI y i) : x = y := by
  have hs := h w (Nat.le_refl _)
  rw [bitI_high x w w hx.1 hx.2 (Nat.le_refl _), bitI_high y w w hy.1 hy.2 (Nat.le_refl _)] at hs
  have hs' : x < 0 ↔ y < 0 := decide_eq_decide.1 hs
  have e := mod_of_bits w x y (fun i hi => h i (by omega))
  have hp : (0 : Int) < 2 ^ w := Int.pow_pos (by omega)
  by_cases c : 0 ≤ x
  · rw [Int.emod_eq_of_lt c hx.2, Int.emod_eq_of_lt (by omega) hy.2] at e; exact e
  · rw [← Int.add_mul_emod_self_left x _ 1, Int.emod_eq_of_lt (by omega) (by omega), ← Int.add_mul_emod_self_left y _ 1, Int.emod_eq_of_lt (by omega) (by omega)] at e; omega

theorem getD_get {l : List Lit} {i : Nat} {t u : Lit} (h : l[i]? = some u) : l.getD i t = u := by simp [List.getD, h]
theorem getD_over {l : List Lit} {i : Nat} {t : Lit} (h : l.length ≤ i) : l.getD i t = t := by simp [List.getD, List.getElem?_eq_none h]

theorem toW_val {ρ : Env} {e : Kn} (S : Sat ρ e) {v : V} {s : Sc} {l : List Lit} {t : Lit} (hw : toW e v = some (l, t)) (hv : Rep ρ v s) : s.asInt = wval ρ l t := by
  cases v with
  | num n => simp only [toW, Option.some.injEq] at hw; rw [hv]; have := numW_val ρ n; rw [hw] at this; exact this.symm
  | bit b => simp [toW] at hw
  | raw x =>
    have hv' : s = ρ.v x := hv
    subst hv'
    simp only [toW, Option.some.injEq, Prod.mk.injEq] at hw
    obtain ⟨rfl, rfl⟩ := hw
    have R := S.rs x
    let w := (findR e.rs x).len
    have hl : (rawBits e x w 0).length = w := rawBits_len _ _
    have hr := wval_range ρ (resL e 4 (.v x 63 false)) (rawBits e x w 0)
    rw [hl] at hr
    refine eq_of_all_bits (w := w) R.len hr ?_
    intro i hi
    rw [wval_bit]
    by_cases h : i < w
    · rw [getD_get (rawBits_get w 0 i h), resL_val S]; simp [Lit.val]
    · rw [getD_over (by rw [rawBits_len]; exact Nat.not_lt.1 h), resL_val S, R.far (Nat.not_lt.1 h)]; simp [Lit.val]
  | msk x m =>
    obtain ⟨h1, h2, h3, h4⟩ := hv
    simp only [toW, Option.some.injEq, Prod.mk.injEq] at hw
    obtain ⟨rfl, rfl⟩ := hw
    have hl : (mskBits e x m (natLen m) 0).length = natLen m := mskBits_len _ _
    have hn := wval_nonneg ρ (t := .c false) rfl (mskBits e x m (natLen m) 0)
    have hr := (wval_range ρ (.c false) (mskBits e x m (natLen m) 0)).2
    have key : ∀ i, bitI s.asInt i = bitI (wval ρ (mskBits e x m (natLen m) 0) (.c false)) i := by
      intro i
      rw [wval_bit, h4 i]
      by_cases h : i < natLen m
      · rw [getD_get (mskBits_get _ 0 i h)]
        simp only [Nat.zero_add, bitOf_eq]
        cases m.testBit i
        · simp [Lit.val]
        · simp only [Bool.true_and]; rw [resL_val S]; simp [Lit.val]
      · rw [getD_over (by omega), Nat.testBit_lt_two_pow (Nat.lt_of_lt_of_le (natLen_lt m) (Nat.pow_le_pow_right (by omega) (by omega)))]
        simp [Lit.val]
    refine eq_of_bits (max 63 (natLen m)) _ _ h1 ?_ hn ?_ (fun i _ => key i)
    · exact Int.lt_of_lt_of_le h3 (pow_mono_int (Nat.le_max_left _ _))
    · rw [hl] at hr; exact Int.lt_of_lt_of_le hr (pow_mono_int (Nat.le_max_right _ _))
  | wd l' t' =>
    simp only [toW, Option.some.injEq, Prod.mk.injEq] at hw
    obtain ⟨rfl, rfl⟩ := hw
    have hv' : s.asInt = wval ρ l' t' := hv
    rw [hv']
    exact (wval_congr ρ (resL_val S 4 t') _ (resL_val S 4) l').symm
  | cnt l' => simp [toW] at hw
  | top => simp [toW] at hw

theorem constL_val (ρ : Env) : ∀ (l : List Lit) (b : Bool) (n : Int), constL l b = some n → wval ρ l (.c b) = n
  | [], b, n, h => by simp only [constL, Option.some.injEq] at h; subst h; cases b <;> simp [wval, Lit.val]
  | .c a :: l, b, n, h => by
    simp only [constL] at h
    split at h
    · rename_i m hm
      simp only [Option.some.injEq] at h; subst h
      rw [wval, constL_val ρ l b m hm]; cases a <;> simp [Lit.val]
    · cases h
  | .v _ _ _ :: _, _, _, h => by simp [constL] at h

theorem mkW_rep (ρ : Env) (w : Wd) (s : Sc) (h : s.asInt = wval ρ w.1 w.2) : Rep ρ (mkW w) s := by
  obtain ⟨l, t⟩ := w
  unfold mkW
  simp only at *
  cases t with
  | c b =>
    simp only
    split
    · rename_i n hn; exact h.trans (constL_val ρ l b n hn)
    · exact h
  | v x i n => exact h

end Go.Sx
