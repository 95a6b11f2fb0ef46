/- The decider is right. -/
import Derived.Test.YtaiecnepchndkaaDoorSxPxE
namespace Go.Sx

section
variable {ρ : Env} {e : Kn}

def Sp.holds (ρ : Env) : Sp → Bool
  | .lit x i => bitI (ρ.v x).asInt i
  | .eqn x i t => bitI (ρ.v x).asInt i == t.val ρ
  | .le x c => decide ((ρ.v x).asInt ≤ c)
  | .pt x c => decide ((ρ.v x).asInt = c)
  | .bl x => (ρ.v x).asBool
  | .cnt l c => decide (cntV ρ l ≤ c)

theorem findR_setR (r : Rng) (x : Nat) : ∀ (l : List (Nat × Rng)) (y : Nat), findR (setR l x r) y = if y = x then r else findR l y
  | [], y => by
    simp only [setR, findR]
    by_cases h : y = x
    · subst h; simp
    · rw [if_neg h]
      have : Nat.beq y x = false := by
        cases hb : Nat.beq y x
        · rfl
        · exact absurd (Nat.eq_of_beq_eq_true hb) h
      rw [this]
  | (z, q) :: l, y => by
    unfold setR
    cases hb : Nat.beq x z
    · simp only [findR]
      cases hc : Nat.beq y z
      · simp only; exact findR_setR r x l y
      · have h1 := Nat.eq_of_beq_eq_true hc
        subst h1
        simp only
        rw [if_neg]
        intro h; subst h; simp at hb
    · have h1 := Nat.eq_of_beq_eq_true hb
      subst h1
      simp only [findR]
      by_cases h : y = x
      · subst h; simp
      · have : Nat.beq y x = false := by
          cases hb : Nat.beq y x
          · rfl
          · exact absurd (Nat.eq_of_beq_eq_true hb) h
        rw [this, if_neg h]

theorem Sat.setR (S : Sat ρ e) {x : Nat} {r : Rng} (h : r.Ok (ρ.v x).asInt) : Sat ρ { e with rs := setR e.rs x r } := by
  refine ⟨?_, S.bs, S.ls, S.cs⟩
  intro y
  simp only [findR_setR]
  split
  · rename_i he; subst he; exact h
  · exact S.rs y

theorem pow_testBit (i j : Nat) : (Nat.pow 2 i).testBit j = decide (i = j) := by
  show (2 ^ i).testBit j = _
  exact Nat.testBit_two_pow

theorem setBit_ok {r : Rng} {n : Int} (R : r.Ok n) (i : Nat) : (setBit r i (bitI n i)).Ok n := by
  unfold setBit
  split
  · exact R
  · rename_i hi
    simp only [Nat.blt_eq] at hi
    have R' : ∀ b, b = bitI n i → ({ r with km := Nat.lor r.km (Nat.pow 2 i), kv := match b with | true => Nat.lor r.kv (Nat.pow 2 i) | false => r.kv } : Rng).Ok n := by
      intro b hb
      refine ⟨R.lo, R.hi, R.ne, ?_, ?_, ?_, R.low, R.high⟩
      · intro j hj hk
        have hk' : (r.km ||| 2 ^ i).testBit j = true := hk
        rw [Nat.testBit_or, Nat.testBit_two_pow] at hk'
        by_cases hij : i = j
        · subst hij
          cases b
          · rw [← hb]
            show false = r.kv.testBit i
            cases hv : r.kv.testBit i
            · rfl
            · obtain ⟨_, hm⟩ := R.sub i hv
              have := R.bits i hj hm
              rw [← hb, hv] at this; cases this
          · rw [← hb]
            show true = (r.kv ||| 2 ^ i).testBit i
            rw [Nat.testBit_or, Nat.testBit_two_pow]; simp
        · simp only [hij, decide_false, Bool.or_false] at hk'
          rw [R.bits j hj hk']
          cases b
          · rfl
          · show _ = (r.kv ||| 2 ^ i).testBit j
            rw [Nat.testBit_or, Nat.testBit_two_pow]; simp [hij]
      · intro j hj
        show j < 64 ∧ (r.km ||| 2 ^ i).testBit j = true
        rw [Nat.testBit_or, Nat.testBit_two_pow]
        cases b
        · have hj' : r.kv.testBit j = true := hj
          obtain ⟨h1, h2⟩ := R.sub j hj'
          exact ⟨h1, by simp [h2]⟩
        · have hj' : (r.kv ||| 2 ^ i).testBit j = true := hj
          rw [Nat.testBit_or, Nat.testBit_two_pow] at hj'
          by_cases hij : i = j
          · subst hij; exact ⟨hi, by simp⟩
          · simp only [hij, decide_false, Bool.or_false] at hj'
            obtain ⟨h1, h2⟩ := R.sub j hj'
            exact ⟨h1, by simp [h2]⟩
      · show r.km ||| 2 ^ i < 2 ^ 64
        exact Nat.or_lt_two_pow R.km (Nat.pow_lt_pow_right (by omega) hi)
    have Q := R' (bitI n i) rfl
    simp only
    split
    · rename_i h63
      have := Nat.eq_of_beq_eq_true h63
      subst this
      have hs := R.sign
      cases hb : bitI n 63
      · rw [hb] at Q hs
        have hn : 0 ≤ n := by simpa using hs.symm
        exact ⟨by have := R.lo; show max r.lo 0 ≤ n; omega, Q.hi, Q.ne, Q.bits, Q.sub, Q.km, Q.low, Q.high⟩
      · rw [hb] at Q hs
        have hn : n < 0 := by simpa using hs.symm
        exact ⟨Q.lo, by have := R.hi; show n ≤ min r.hi (-1); omega, Q.ne, Q.bits, Q.sub, Q.km, Q.low, Q.high⟩
    · exact Q

theorem tell_ok (S : Sat ρ e) (s : Sp) : Sat ρ (e.tell s (s.holds ρ)) := by
  cases s with
  | lit x i => exact S.setR (setBit_ok (S.rs x) i)
  | eqn x i t =>
    simp only [Sp.holds]
    cases hb : bitI (ρ.v x).asInt i == t.val ρ
    · refine ⟨S.rs, S.bs, ?_, S.cs⟩
      intro y j u hm
      simp only [Kn.tell, List.mem_cons, Prod.mk.injEq] at hm
      rcases hm with ⟨rfl, rfl, rfl⟩ | hm
      · rw [Lit.neg_val]; revert hb; cases bitI (ρ.v y).asInt j <;> cases t.val ρ <;> simp
      · exact S.ls y j u hm
    · refine ⟨S.rs, S.bs, ?_, S.cs⟩
      intro y j u hm
      simp only [Kn.tell, List.mem_cons, Prod.mk.injEq] at hm
      rcases hm with ⟨rfl, rfl, rfl⟩ | hm
      · simpa using hb
      · exact S.ls y j u hm
  | le x c =>
    have R := S.rs x
    simp only [Sp.holds]
    by_cases h : (ρ.v x).asInt ≤ c
    · rw [decide_eq_true h]
      exact S.setR ⟨R.lo, by have := R.hi; show _ ≤ min (findR e.rs x).hi c; omega, R.ne, R.bits, R.sub, R.km, R.low, R.high⟩
    · rw [decide_eq_false h]
      exact S.setR ⟨by have := R.lo; show max (findR e.rs x).lo (c + 1) ≤ _; omega, R.hi, R.ne, R.bits, R.sub, R.km, R.low, R.high⟩
  | pt x c =>
    have R := S.rs x
    simp only [Sp.holds]
    by_cases h : (ρ.v x).asInt = c
    · rw [decide_eq_true h]
      refine S.setR ⟨by show c ≤ _; omega, by show _ ≤ c; omega, R.ne, ?_, ?_, (by show ones64 < 2 ^ 64; decide), R.low, R.high⟩
      · intro i hi _
        show _ = (low64 c).testBit i
        rw [low64_bit c i hi, h]
      · intro i hi
        have hi' : (low64 c).testBit i = true := hi
        have h64 : i < 64 := by
          cases Nat.lt_or_ge i 64 with
          | inl h => exact h
          | inr h => rw [testBit_small (low64_lt c) h] at hi'; cases hi'
        refine ⟨h64, ?_⟩
        show (2 ^ 64 - 1).testBit i = true
        rw [Nat.testBit_two_pow_sub_one]; simpa using h64
    · rw [decide_eq_false h]
      refine S.setR ?_
      simp only
      split
      · rename_i hd; simp only [decide_eq_true_eq] at hd
        exact ⟨by have := R.lo; show c + 1 ≤ _; omega, R.hi, R.ne, R.bits, R.sub, R.km, R.low, R.high⟩
      · split
        · rename_i hd; simp only [decide_eq_true_eq] at hd
          exact ⟨R.lo, by have := R.hi; show _ ≤ c - 1; omega, R.ne, R.bits, R.sub, R.km, R.low, R.high⟩
        · refine ⟨R.lo, R.hi, ?_, R.bits, R.sub, R.km, R.low, R.high⟩
          intro d hd
          have hd' : d ∈ c :: (findR e.rs x).ne := hd
          rcases List.mem_cons.1 hd' with rfl | hd'
          · exact h
          · exact R.ne d hd'
  | bl x =>
    refine ⟨S.rs, ?_, S.ls, S.cs⟩
    intro y b hb
    simp only [Kn.tell, List.lookup_cons] at hb
    split at hb
    · rename_i he
      have : y = x := by simpa using he
      subst this
      simpa [Sp.holds] using hb
    · exact S.bs y b hb
  | cnt l c =>
    have hf := findC_ok S e.cs l S.cs
    simp only [Sp.holds]
    by_cases h : cntV ρ l ≤ c
    · rw [decide_eq_true h]
      refine ⟨S.rs, S.bs, S.ls, ?_⟩
      intro k a b hm
      simp only [Kn.tell, List.mem_cons, Prod.mk.injEq] at hm
      rcases hm with ⟨rfl, rfl, rfl⟩ | hm
      · omega
      · exact S.cs k a b hm
    · rw [decide_eq_false h]
      refine ⟨S.rs, S.bs, S.ls, ?_⟩
      intro k a b hm
      simp only [Kn.tell, List.mem_cons, Prod.mk.injEq] at hm
      rcases hm with ⟨rfl, rfl, rfl⟩ | hm
      · omega
      · exact S.cs k a b hm

theorem tell_ik (s : Sp) (b : Bool) : (e.tell s b).ik = e.ik := by
  cases s <;> cases b <;> rfl

/-- A range's bits beside its number, as a number of 64 bits. -/
theorem Rng.Ok.between {r : Rng} {n : Int} (R : r.Ok n) : r.kv ≤ low64 n ∧ low64 n ≤ Nat.lor r.kv (Nat.xor ones64 r.km) := by
  have hb : ∀ i, r.kv.testBit i = true → (low64 n).testBit i = true := by
    intro i hi
    obtain ⟨h1, h2⟩ := R.sub i hi
    rw [low64_bit n i h1, R.bits i h1 h2, hi]
  constructor
  · have : r.kv &&& low64 n = r.kv := by
      apply Nat.eq_of_testBit_eq
      intro i
      rw [Nat.testBit_and]
      cases h : r.kv.testBit i
      · simp
      · simp [hb i h]
    rw [← this]; exact Nat.and_le_right
  · show low64 n ≤ r.kv ||| (ones64 ^^^ r.km)
    have : low64 n &&& (r.kv ||| (ones64 ^^^ r.km)) = low64 n := by
      apply Nat.eq_of_testBit_eq
      intro i
      rw [Nat.testBit_and, Nat.testBit_or, Nat.testBit_xor]
      cases h : (low64 n).testBit i
      · simp
      · have h64 : i < 64 := by
          cases Nat.lt_or_ge i 64 with
          | inl h => exact h
          | inr h' => rw [testBit_small (low64_lt n) h'] at h; cases h
        have b4 : ones64.testBit i = true := by
          show (2 ^ 64 - 1).testBit i = true
          rw [Nat.testBit_two_pow_sub_one]; simpa using h64
        rw [b4]
        cases hk : r.km.testBit i
        · simp
        · have := R.bits i h64 hk
          rw [low64_bit n i h64] at h
          rw [h] at this
          simp [← this]
    rw [← this]; exact Nat.and_le_right

theorem Rng.Ok.not_bad {r : Rng} {n : Int} (R : r.Ok n) : r.bad = false := by
  obtain ⟨h1, h2⟩ := R.between
  have hlo := R.lo
  have hhi := R.hi
  have hlow := R.low
  have hhigh := R.high
  unfold Rng.bad
  split
  · rename_i l h hl hh
    rw [hl] at hlo
    rw [hh] at hhi
    have e : low64 n = n.toNat := by
      unfold low64; rw [Int.emod_eq_of_lt (by have : (0 : Int) ≤ Int.ofNat l := by simp
                                              omega) (by omega)]
    have a1 : (l : Int) ≤ n := hlo
    have a2 : n ≤ (h : Int) := hhi
    simp only [Bool.or_eq_false_iff]
    refine ⟨⟨?_, ?_⟩, ?_⟩
    · cases hb : Nat.blt h r.kv
      · rfl
      · simp only [Nat.blt_eq] at hb; omega
    · cases hb : Nat.blt (Nat.lor r.kv (Nat.xor ones64 r.km)) l
      · rfl
      · simp only [Nat.blt_eq] at hb; omega
    · cases hb : Nat.blt h l
      · rfl
      · simp only [Nat.blt_eq] at hb; omega
  · rename_i l h hl hh
    rw [hl] at hlo
    rw [hh] at hhi
    have a1 : -((l : Int) + 1) ≤ n := by rw [Int.negSucc_eq] at hlo; exact hlo
    have a2 : n ≤ -((h : Int) + 1) := by rw [Int.negSucc_eq] at hhi; exact hhi
    have e : (low64 n : Int) = n + 18446744073709551616 := by
      unfold low64
      rw [Int.toNat_of_nonneg (Int.emod_nonneg _ (by decide)), ← Int.add_mul_emod_self_left n 18446744073709551616 1, Int.emod_eq_of_lt (by omega) (by omega)]
      omega
    have o : ones64 = 18446744073709551615 := rfl
    simp only [Bool.or_eq_false_iff]
    refine ⟨⟨?_, ?_⟩, ?_⟩
    · cases hb : Nat.blt (Nat.sub ones64 h) r.kv
      · rfl
      · simp only [Nat.blt_eq] at hb
        have hb' : ones64 - h < r.kv := hb
        omega
    · cases hb : Nat.blt (Nat.lor r.kv (Nat.xor ones64 r.km)) (Nat.sub ones64 l)
      · rfl
      · simp only [Nat.blt_eq] at hb
        have hb' : Nat.lor r.kv (Nat.xor ones64 r.km) < ones64 - l := hb
        omega
    · cases hb : Nat.blt l h
      · rfl
      · simp only [Nat.blt_eq] at hb; omega
  · rfl

theorem badL_ok (S : Sat ρ e) : ∀ (l : List (Nat × Nat × Lit)), (∀ x i t, (x, i, t) ∈ l → bitI (ρ.v x).asInt i = t.val ρ) → badL e l = false
  | [], _ => rfl
  | (x, i, t) :: l, h => by
    unfold badL
    rw [badL_ok S l (fun x i t hm => h x i t (by simp [hm])), Bool.or_false]
    have h1 := h x i t (by simp)
    have R := S.rs x
    simp only
    split
    · rename_i b hk ht
      have h2 := resL_val S 4 t
      rw [ht] at h2
      rw [← R.known hk, h1, ← h2]
      simp [Lit.val]
    · rfl

theorem bad_ok (S : Sat ρ e) (s : Sp) : e.bad s = false := by
  unfold Kn.bad
  simp only [Bool.or_eq_false_iff]
  constructor
  · split
    · exact (S.rs _).not_bad
    · rfl
  · split
    · rfl
    · exact badL_ok S _ S.ls

theorem highs_bit (k i : Nat) : (highs k).testBit i = (decide (k ≤ i) && decide (i < 64)) := by
  show ((ones64 >>> k) <<< k).testBit i = _
  rw [Nat.testBit_shiftLeft, Nat.testBit_shiftRight]
  show (decide (i ≥ k) && (2 ^ 64 - 1).testBit (k + (i - k))) = _
  rw [Nat.testBit_two_pow_sub_one]
  by_cases h : k ≤ i
  · simp [h, show k + (i - k) = i by omega]
  · simp [h]

theorem highs_lt (k : Nat) : highs k < 2 ^ 64 := by
  apply Nat.lt_pow_two_of_testBit
  intro i hi
  rw [highs_bit]; simp; omega

theorem Rng.Ok.tight {r : Rng} {n : Int} (R : r.Ok n) : r.tight.Ok n := by
  have hlo := R.lo
  have hhi := R.hi
  unfold Rng.tight
  split
  · rename_i l h hl hh
    rw [hl] at hlo
    rw [hh] at hhi
    have a1 : (l : Int) ≤ n := hlo
    have a2 : n ≤ (h : Int) := hhi
    have hn : n < 2 ^ natLen h := by
      have := natLen_lt h
      have : ((h : Nat) : Int) < 2 ^ natLen h := by exact_mod_cast this
      omega
    have hz : ∀ i, natLen h ≤ i → bitI n i = false := by
      intro i hi
      rw [bitI_high n (natLen h) i (by have : (0 : Int) < 2 ^ natLen h := Int.pow_pos (by omega)
                                       omega) hn hi]
      simp; omega
    refine ⟨R.lo, R.hi, R.ne, ?_, ?_, ?_, R.low, R.high⟩
    · intro i hi hk
      have hk' : (r.km ||| highs (natLen h)).testBit i = true := hk
      rw [Nat.testBit_or, highs_bit] at hk'
      cases hm : r.km.testBit i
      · rw [hm] at hk'
        simp at hk'
        rw [hz i hk'.1]
        show false = r.kv.testBit i
        cases hv : r.kv.testBit i
        · rfl
        · obtain ⟨_, h2⟩ := R.sub i hv; rw [hm] at h2; cases h2
      · exact R.bits i hi hm
    · intro i hi
      obtain ⟨h1, h2⟩ := R.sub i hi
      refine ⟨h1, ?_⟩
      show (r.km ||| highs (natLen h)).testBit i = true
      rw [Nat.testBit_or, h2]; rfl
    · exact Nat.or_lt_two_pow R.km (highs_lt _)
  · rename_i l h hl hh
    rw [hl] at hlo
    rw [hh] at hhi
    have a1 : -((l : Int) + 1) ≤ n := by rw [Int.negSucc_eq] at hlo; exact hlo
    have a2 : n ≤ -((h : Int) + 1) := by rw [Int.negSucc_eq] at hhi; exact hhi
    have hn : -2 ^ natLen l ≤ n := by
      have := natLen_lt l
      have : ((l : Nat) : Int) < 2 ^ natLen l := by exact_mod_cast this
      omega
    have hz : ∀ i, natLen l ≤ i → bitI n i = true := by
      intro i hi
      rw [bitI_high n (natLen l) i hn (by have : (0 : Int) < 2 ^ natLen l := Int.pow_pos (by omega)
                                          omega) hi]
      simp; omega
    refine ⟨R.lo, R.hi, R.ne, ?_, ?_, ?_, R.low, R.high⟩
    · intro i hi hk
      have hk' : (r.km ||| highs (natLen l)).testBit i = true := hk
      show _ = (r.kv ||| highs (natLen l)).testBit i
      rw [Nat.testBit_or, highs_bit] at hk' ⊢
      by_cases hl : natLen l ≤ i
      · rw [hz i hl]; simp [hl, hi]
      · simp only [hl, decide_false, Bool.false_and, Bool.or_false] at hk' ⊢
        exact R.bits i hi hk'
    · intro i hi
      have hi' : (r.kv ||| highs (natLen l)).testBit i = true := hi
      show _ ∧ (r.km ||| highs (natLen l)).testBit i = true
      rw [Nat.testBit_or, highs_bit] at hi' ⊢
      cases hv : r.kv.testBit i
      · rw [hv] at hi'
        simp at hi'
        exact ⟨hi'.2, by simp [hi'.1, hi'.2]⟩
      · obtain ⟨h1, h2⟩ := R.sub i hv
        exact ⟨h1, by simp [h2]⟩
    · exact Nat.or_lt_two_pow R.km (highs_lt _)
  · exact R

theorem tight_ok (S : Sat ρ e) (s : Sp) : Sat ρ (e.tight s) := by
  unfold Kn.tight
  split
  · exact S.setR (S.rs _).tight
  · exact S

theorem tight_ik (s : Sp) : (e.tight s).ik = e.ik := by
  unfold Kn.tight; split <;> rfl

/-- What is known holds, and the numbers are numbers. -/
structure Sats (ρ : Env) (e : Kn) : Prop where
  sat : Sat ρ e
  ints : ∀ x ∈ e.ik, ∃ n, ρ.v x = .int n

theorem drive_ok {α : Type} : ∀ (n : Nat) (e : Kn) (f : Kn → Ask α) (k : Option α → Kn → Bool), drive n e f k = true → Sats ρ e →
    ∃ e' r, Sats ρ e' ∧ k r e' = true ∧ ∀ a, r = some a → f e' = .ok a
  | 0, e, f, k, h, S => ⟨e, none, S, h, by intro a ha; cases ha⟩
  | n + 1, e, f, k, h, S => by
    unfold drive at h
    split at h
    · rename_i a ha
      exact ⟨e, some a, S, h, by intro b hb; cases hb; exact ha⟩
    · exact ⟨e, none, S, h, by intro a ha; cases ha⟩
    · rename_i s hs
      simp only [Bool.and_eq_true] at h
      have T := tell_ok S.sat s
      have hb := bad_ok T s
      have T' : Sats ρ ((e.tell s (s.holds ρ)).tight s) := ⟨tight_ok T s, by rw [tight_ik, tell_ik]; exact S.ints⟩
      cases hh : s.holds ρ
      · rw [hh] at hb T'
        have h2 := h.2
        rw [hb] at h2
        exact drive_ok n _ f k h2 T'
      · rw [hh] at hb T'
        have h1 := h.1
        rw [hb] at h1
        exact drive_ok n _ f k h1 T'

end

/-! ### Terms -/

/-- How many ones. -/
def popB : Nat → Int → Nat
  | 0, _ => 0
  | k + 1, n => (if n % 2 = 1 then 1 else 0) + popB k (n / 2)
def popI (n : Int) : Nat := popB 64 n

theorem popB_zero : ∀ k, popB k 0 = 0
  | 0 => rfl
  | k + 1 => by simp only [popB]; rw [show (0 : Int) / 2 = 0 from rfl, popB_zero k]; rfl

theorem popB_word (ρ : Env) : ∀ (l : List Lit) (k : Nat), l.length ≤ k → popB k (wval ρ l (.c false)) = cntV ρ l
  | [], k, _ => by
    have : wval ρ [] (.c false) = 0 := by simp [wval, Lit.val]
    rw [this, popB_zero]; rfl
  | a :: l, 0, h => by simp at h
  | a :: l, k + 1, h => by
    have hb := bi_bound (ρ := ρ) a
    rw [wval_cons, popB, cntV]
    rw [show (2 * wval ρ l (.c false) + bi ρ a) / 2 = wval ρ l (.c false) by omega, popB_word ρ l k (by simpa using h)]
    have h2 : (2 * wval ρ l (.c false) + bi ρ a) % 2 = bi ρ a := by omega
    rw [h2]
    unfold bi
    cases a.val ρ <;> simp

def Reps (ρ : Env) : List V → List Sc → Prop
  | [], [] => True
  | v :: vs, s :: ss => Rep ρ v s ∧ Reps ρ vs ss
  | _, _ => False

structure Sg.Ok (ρ : Env) (sg : Sg) : Prop where
  defs : ∀ g t, sg.defs g = some t → ∀ ss, ρ.f g ss = t.den ⟨fun i => ss.getD i (.int 0), ρ.f, ρ.val⟩
  ufs : ∀ g xs y, (g, xs, y) ∈ sg.ufs → ∀ ss : List Sc, ss.map Sc.asInt = xs.map (fun x => (ρ.v x).asInt) → ρ.f g ss = ρ.v y
  pop : ∀ s : Sc, 0 ≤ s.asInt → (ρ.f sg.pop [s]).asInt = popI s.asInt

def RecOk (ρ : Env) (rec : Nat → List V → Kn → KV → Bool) : Prop :=
  ∀ g vs ss e k, Sats ρ e → Reps ρ vs ss → rec g vs e k = true → ∃ e' v, Sats ρ e' ∧ Rep ρ v (ρ.f g ss) ∧ k v e' = true

section
variable {ρ : Env} {e : Kn}

theorem rawOf_ok (S : Sat ρ e) {v : V} {s : Sc} {x : Nat} (h : rawOf e v = some x) (hv : Rep ρ v s) : s.asInt = (ρ.v x).asInt := by
  unfold rawOf at h
  split at h
  · simp only [Option.some.injEq] at h; subst h; have : s = _ := hv; rw [this]
  · split at h
    · rename_i l t hw
      split at h
      · rename_i y l'
        split at h
        · rename_i w hw'
          split at h
          · rename_i he
            simp only [Option.some.injEq] at h; subst h; subst he
            rw [toW_val S hw hv]
            exact (toW_val S hw' (s := ρ.v y) rfl).symm
          · cases h
        · cases h
      · cases h
    · cases h

theorem rawsOf_ok (S : Sat ρ e) : ∀ {vs : List V} {ss : List Sc} {xs : List Nat}, rawsOf e vs = some xs → Reps ρ vs ss → ss.map Sc.asInt = xs.map (fun x => (ρ.v x).asInt)
  | [], [], xs, h, _ => by simp [rawsOf] at h; subst h; rfl
  | [], _ :: _, _, _, r => r.elim
  | _ :: _, [], _, _, r => r.elim
  | v :: vs, s :: ss, xs, h, r => by
    unfold rawsOf at h
    split at h
    · rename_i x l hx hl
      simp only [Option.some.injEq] at h; subst h
      simp only [List.map_cons, rawOf_ok S hx r.1, rawsOf_ok S hl r.2]
    · cases h

theorem findU_mem : ∀ (l : List (Nat × List Nat × Nat)) (g : Nat) (xs : List Nat) (y : Nat), findU l g xs = some y → (g, xs, y) ∈ l
  | [], _, _, _, h => by cases h
  | (a, b, c) :: l, g, xs, y, h => by
    unfold findU at h
    split at h
    · rename_i he; obtain ⟨rfl, rfl⟩ := he; simp only [Option.some.injEq] at h; subst h; simp
    · exact List.mem_cons_of_mem _ (findU_mem l g xs y h)

theorem orTop_rep {r : Option V} {s : Sc} (h : ∀ v, r = some v → Rep ρ v s) : Rep ρ (orTop r) s := by
  cases r with
  | none => trivial
  | some v => exact h v rfl

end

section
variable {ρ : Env} {sg : Sg} {rec : Nat → List V → Kn → KV → Bool}

/-- A term that is looked at. -/
def EvOk (ρ : Env) (sg : Sg) (rec : Nat → List V → Kn → KV → Bool) (t : Tm) : Prop :=
  ∀ (σ : Option (List V)) (η : Env), η.f = ρ.f → (∀ i, Rep ρ (locV σ i) (η.v i)) → ∀ e k, Sats ρ e → ev sg rec σ t e k = true → ∃ e' v, Sats ρ e' ∧ Rep ρ v (t.den η) ∧ k v e' = true

def EvLOk (ρ : Env) (sg : Sg) (rec : Nat → List V → Kn → KV → Bool) (t : Tm) : Prop :=
  ∀ (σ : Option (List V)) (η : Env), η.f = ρ.f → (∀ i, Rep ρ (locV σ i) (η.v i)) → ∀ e k, Sats ρ e → ev.evA sg rec σ t e k = true → ∃ e' vs, Sats ρ e' ∧ (isList t = true → Reps ρ vs (t.den η).asList) ∧ k vs e' = true

theorem truth_drive {e : Kn} {v : V} {s : Sc} {k : Option Bool → Kn → Bool} (S : Sats ρ e) (hv : Rep ρ v s) (h : drive 100 e (fun e => truthV e v) k = true) :
    ∃ e' r, Sats ρ e' ∧ k r e' = true ∧ ∀ b, r = some b → s.asBool = b := by
  obtain ⟨e', r, S', hk, hr⟩ := drive_ok 100 e _ k h S
  exact ⟨e', r, S', hk, fun b hb => truthV_ok S'.sat (hr b hb) hv⟩


theorem Reps.get {vs : List V} {ss : List Sc} (h : Reps ρ vs ss) : ∀ i, Rep ρ (vs.getD i .top) (ss.getD i (.int 0)) := by
  induction vs generalizing ss with
  | nil => intro i; simp; trivial
  | cons v vs ih =>
    cases ss with
    | nil => exact h.elim
    | cons s ss =>
      intro i
      cases i with
      | zero => simpa using h.1
      | succ i => simpa using ih h.2 i

theorem ev_op1 {o : Op1} {a : Tm} (ha : EvOk ρ sg rec a) : EvOk ρ sg rec (.op1 o a) := by
  intro σ η hf hσ e k S h
  unfold ev at h
  obtain ⟨e1, v, S1, hv, h⟩ := ha σ η hf hσ e _ S h
  obtain ⟨e2, r, S2, hk, hr⟩ := drive_ok 100 e1 _ _ h S1
  exact ⟨e2, _, S2, orTop_rep (fun u hu => o1_ok S2.sat S2.ints (hr u hu) hv), hk⟩

theorem ev_op2 {o : Op2} {a b : Tm} (ha : EvOk ρ sg rec a) (hb : EvOk ρ sg rec b) : EvOk ρ sg rec (.op2 o a b) := by
  intro σ η hf hσ e k S h
  by_cases h1 : o = .band
  · subst h1
    unfold ev at h
    obtain ⟨e1, v, S1, hv, h⟩ := ha σ η hf hσ e _ S h
    obtain ⟨e2, r, S2, h, hr⟩ := truth_drive S1 hv h
    split at h
    · have h0 := hr true rfl
      obtain ⟨e3, u, S3, hu, h⟩ := hb σ η hf hσ e2 _ S2 h
      obtain ⟨e4, r, S4, h, hr'⟩ := truth_drive S3 hu h
      split at h
      · rename_i b'
        refine ⟨e4, _, S4, ?_, h⟩
        show ((a.den η).asBool && (b.den η).asBool) = b'
        rw [h0, hr' b' rfl]; rfl
      · exact ⟨e4, .top, S4, trivial, h⟩
    · have h0 := hr false rfl
      refine ⟨e2, _, S2, ?_, h⟩
      show ((a.den η).asBool && (b.den η).asBool) = false
      rw [h0]; rfl
    · exact ⟨e2, .top, S2, trivial, h⟩
  by_cases h2 : o = .bor
  · subst h2
    unfold ev at h
    obtain ⟨e1, v, S1, hv, h⟩ := ha σ η hf hσ e _ S h
    obtain ⟨e2, r, S2, h, hr⟩ := truth_drive S1 hv h
    split at h
    · have h0 := hr false rfl
      obtain ⟨e3, u, S3, hu, h⟩ := hb σ η hf hσ e2 _ S2 h
      obtain ⟨e4, r, S4, h, hr'⟩ := truth_drive S3 hu h
      split at h
      · rename_i b'
        refine ⟨e4, _, S4, ?_, h⟩
        show ((a.den η).asBool || (b.den η).asBool) = b'
        rw [h0, hr' b' rfl]; rfl
      · exact ⟨e4, .top, S4, trivial, h⟩
    · have h0 := hr true rfl
      refine ⟨e2, _, S2, ?_, h⟩
      show ((a.den η).asBool || (b.den η).asBool) = true
      rw [h0]; rfl
    · exact ⟨e2, .top, S2, trivial, h⟩
  · have h' : (ev sg rec σ a e fun v e => ev sg rec σ b e fun u e => drive 100 e (o2 o v u) fun r e => k (orTop r) e) = true := by
      cases o <;> first | exact (h1 rfl).elim | exact (h2 rfl).elim | (unfold ev at h; exact h)
    obtain ⟨e1, v, S1, hv, h⟩ := ha σ η hf hσ e _ S h'
    obtain ⟨e2, u, S2, hu, h⟩ := hb σ η hf hσ e1 _ S1 h
    obtain ⟨e3, r, S3, hk, hr⟩ := drive_ok 100 e2 _ _ h S2
    exact ⟨e3, _, S3, orTop_rep (fun w hw => o2_ok S3.sat (hr w hw) hv hu), hk⟩

theorem ev_ite {c a b : Tm} (hc : EvOk ρ sg rec c) (ha : EvOk ρ sg rec a) (hb : EvOk ρ sg rec b) : EvOk ρ sg rec (.ite c a b) := by
  intro σ η hf hσ e k S h
  unfold ev at h
  obtain ⟨e1, v, S1, hv, h⟩ := hc σ η hf hσ e _ S h
  obtain ⟨e2, r, S2, h, hr⟩ := truth_drive S1 hv h
  split at h
  · have h0 := hr true rfl
    have hd : (Tm.ite c a b).den η = a.den η := by simp only [Tm.den, h0]
    rw [hd]
    exact ha σ η hf hσ e2 _ S2 h
  · have h0 := hr false rfl
    have hd : (Tm.ite c a b).den η = b.den η := by simp only [Tm.den, h0]
    rw [hd]
    exact hb σ η hf hσ e2 _ S2 h
  · exact ⟨e2, .top, S2, trivial, h⟩

theorem ev_app (so : sg.Ok ρ) (hrec : RecOk ρ rec) {g : Nat} {a : Tm} (ha : EvLOk ρ sg rec a) : EvOk ρ sg rec (.app g a) := by
  intro σ η hf hσ e k S h
  unfold ev at h
  cases hl : isList a
  · rw [hl] at h
    exact ⟨e, .top, S, trivial, h⟩
  · rw [hl] at h
    obtain ⟨e1, vs, S1, hvs, h'⟩ := ha σ η hf hσ e _ S h
    clear h
    have R := hvs hl
    have hd : (Tm.app g a).den η = ρ.f g (a.den η).asList := by simp only [Tm.den, hf]
    rw [hd]
    split at h'
    · exact hrec g vs _ e1 k S1 R h'
    · split at h'
      · rename_i v hg
        have hg' := Nat.eq_of_beq_eq_true hg
        subst hg'
        split at h'
        · rename_i l hw
          split at h'
          · rename_i hlen
            refine ⟨e1, _, S1, ?_, h'⟩
            revert R
            generalize (a.den η).asList = ss
            intro R
            match ss, R with
            | [s], R =>
              have h1 := toW_val S1.sat hw R.1
              have hn : 0 ≤ s.asInt := by rw [h1]; exact wval_nonneg ρ rfl l
              show (ρ.f sg.pop [s]).asInt = _
              have hp := popB_word ρ l 64 (Nat.le_of_ble_eq_true hlen)
              rw [so.pop s hn, h1]
              unfold popI
              rw [hp]
            | [], R => exact R.elim
            | _ :: _ :: _, R => exact R.2.elim
          · exact ⟨e1, .top, S1, trivial, h'⟩
        · exact ⟨e1, .top, S1, trivial, h'⟩
      · split at h'
        · rename_i xs hx
          split at h'
          · rename_i y hy
            refine ⟨e1, _, S1, ?_, h'⟩
            exact so.ufs g xs y (findU_mem _ _ _ _ hy) _ (rawsOf_ok S1.sat hx R)
          · exact ⟨e1, .top, S1, trivial, h'⟩
        · exact ⟨e1, .top, S1, trivial, h'⟩

theorem ev_both (so : sg.Ok ρ) (hrec : RecOk ρ rec) (t : Tm) : EvOk ρ sg rec t ∧ EvLOk ρ sg rec t := by
  have none' : ∀ t : Tm, isList t = false → (∀ σ e k, ev.evA sg rec σ t e k = k [] e) → EvLOk ρ sg rec t := by
    intro t hl he σ η hf hσ e k S h
    rw [he] at h
    exact ⟨e, [], S, (by intro h; rw [hl] at h; cases h), h⟩
  induction t with
  | var i => exact ⟨fun σ η hf hσ e k S h => ⟨e, _, S, hσ i, by unfold ev at h; exact h⟩, none' _ rfl (fun _ _ _ => by unfold ev.evA; rfl)⟩
  | num n => exact ⟨fun σ η hf hσ e k S h => ⟨e, .num n, S, rfl, by unfold ev at h; exact h⟩, none' _ rfl (fun _ _ _ => by unfold ev.evA; rfl)⟩
  | bit b => exact ⟨fun σ η hf hσ e k S h => ⟨e, .bit b, S, rfl, by unfold ev at h; exact h⟩, none' _ rfl (fun _ _ _ => by unfold ev.evA; rfl)⟩
  | text s => exact ⟨fun σ η hf hσ e k S h => ⟨e, .top, S, trivial, by unfold ev at h; exact h⟩, none' _ rfl (fun _ _ _ => by unfold ev.evA; rfl)⟩
  | op1 o a ih => exact ⟨ev_op1 ih.1, none' _ rfl (fun _ _ _ => by unfold ev.evA; rfl)⟩
  | op2 o a b iha ihb => exact ⟨ev_op2 iha.1 ihb.1, none' _ rfl (fun _ _ _ => by unfold ev.evA; rfl)⟩
  | ite c a b ihc iha ihb => exact ⟨ev_ite ihc.1 iha.1 ihb.1, none' _ rfl (fun _ _ _ => by unfold ev.evA; rfl)⟩
  | nil =>
    refine ⟨fun σ η hf hσ e k S h => ⟨e, .top, S, trivial, by unfold ev at h; exact h⟩, ?_⟩
    intro σ η hf hσ e k S h
    unfold ev.evA at h
    exact ⟨e, [], S, fun _ => trivial, h⟩
  | cons a b iha ihb =>
    refine ⟨fun σ η hf hσ e k S h => ⟨e, .top, S, trivial, by unfold ev at h; exact h⟩, ?_⟩
    intro σ η hf hσ e k S h
    unfold ev.evA at h
    obtain ⟨e1, v, S1, hv, h⟩ := iha.1 σ η hf hσ e _ S h
    obtain ⟨e2, vs, S2, hvs, h⟩ := ihb.2 σ η hf hσ e1 _ S1 h
    exact ⟨e2, v :: vs, S2, fun hl => ⟨hv, hvs hl⟩, h⟩
  | app g a ih => exact ⟨ev_app so hrec ih.2, none' _ rfl (fun _ _ _ => by unfold ev.evA; rfl)⟩

theorem evN_ok (so : sg.Ok ρ) : ∀ n, RecOk ρ (evN sg n)
  | 0 => by
    intro g vs ss e k S R h
    exact ⟨e, .top, S, trivial, h⟩
  | n + 1 => by
    intro g vs ss e k S R h
    unfold evN at h
    split at h
    · rename_i t ht
      rw [so.defs g t ht ss]
      exact (ev_both so (evN_ok so n) t).1 (some vs) ⟨fun i => ss.getD i (.int 0), ρ.f, ρ.val⟩ rfl (fun i => R.get i) e k S h
    · exact ⟨e, .top, S, trivial, h⟩

theorem ev_ok (so : sg.Ok ρ) (n : Nat) (t : Tm) {e : Kn} {k : KV} (S : Sats ρ e) (h : ev sg (evN sg n) none t e k = true) : ∃ e' v, Sats ρ e' ∧ Rep ρ v (t.den ρ) ∧ k v e' = true :=
  (ev_both so (evN_ok so n) t).1 none ρ rfl (fun _ => rfl) e k S h

theorem pxT_ok (so : sg.Ok ρ) {t : Tm} {e : Kn} {k : Kn → Bool} (S : Sats ρ e) (h : pxT sg t e k = true) : (t.den ρ).asBool = true ∧ ∃ e', Sats ρ e' ∧ k e' = true := by
  unfold pxT at h
  obtain ⟨e1, v, S1, hv, h⟩ := ev_ok so 5 t S h
  obtain ⟨e2, r, S2, h, hr⟩ := truth_drive S1 hv h
  split at h
  · exact ⟨hr true rfl, e2, S2, h⟩
  · cases h

/-- THE DECIDER: the tree has an answer, and this is true, wherever what is known holds. -/
theorem pxTree_ok (so : sg.Ok ρ) : ∀ (t : Tree Res) (e : Kn), Sats ρ e → pxTree sg t e = true → ∃ x b, t.get ρ = some x ∧ x.v = .bool b ∧ (b.den ρ).asBool = true
  | .leaf x, e, S, h => by
    unfold pxTree at h
    split at h
    · rename_i b hb
      exact ⟨x, b, rfl, hb, (pxT_ok so S h).1⟩
    · cases h
  | .ite c a b, e, S, h => by
    unfold pxTree at h
    obtain ⟨e1, v, S1, hv, h⟩ := ev_ok so 5 c S h
    obtain ⟨e2, r, S2, h, hr⟩ := truth_drive S1 hv h
    split at h
    · obtain ⟨x, t, h1, h2, h3⟩ := pxTree_ok so a e2 S2 h
      exact ⟨x, t, by simp only [Tree.get, hr true rfl]; exact h1, h2, h3⟩
    · obtain ⟨x, t, h1, h2, h3⟩ := pxTree_ok so b e2 S2 h
      exact ⟨x, t, by simp only [Tree.get, hr false rfl]; exact h1, h2, h3⟩
    · cases h
  | .assert c a, e, S, h => by
    unfold pxTree at h
    simp only [Bool.and_eq_true] at h
    obtain ⟨h0, _⟩ := pxT_ok so S h.1
    obtain ⟨x, t, h1, h2, h3⟩ := pxTree_ok so a e S h.2
    exact ⟨x, t, by simp only [Tree.get, h0]; exact h1, h2, h3⟩
  | .fail w, e, S, h => by simp [pxTree] at h

end
end Go.Sx
