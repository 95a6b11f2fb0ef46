/- The decider's operations are right: all of them. -/
import Derived.Test.YtaiecnepchndkaaDoorSxPxD
namespace Go.Sx

section
variable {ρ : Env} {e : Kn}

theorem truthV_ok (S : Sat ρ e) {v : V} {s : Sc} {b : Bool} (h : truthV e v = .ok b) (hv : Rep ρ v s) : s.asBool = b := by
  unfold truthV at h
  split at h
  · simp only [Ask.ok.injEq] at h; subst h; exact hv
  · rename_i x
    split at h
    · rename_i hb
      simp only [Ask.ok.injEq] at h; subst h
      have h1 : s = ρ.v x := hv
      rw [h1]; exact S.bs x _ hb
    · cases h
  · cases h

theorem and_bit (k : IntKind) (x y : Int) (i : Nat) (h : i < k.bits) : bitI (bitsOp k (fun a b => a &&& b) x y) i = (bitI x i && bitI y i) :=
  bitsOp_bit k _ _ (fun _ _ _ _ => BitVec.getLsbD_and) x y i h
theorem or_bit (k : IntKind) (x y : Int) (i : Nat) (h : i < k.bits) : bitI (bitsOp k (fun a b => a ||| b) x y) i = (bitI x i || bitI y i) :=
  bitsOp_bit k _ _ (fun _ _ _ _ => BitVec.getLsbD_or) x y i h
theorem xor_bit (k : IntKind) (x y : Int) (i : Nat) (h : i < k.bits) : bitI (bitsOp k (fun a b => a ^^^ b) x y) i = (bitI x i != bitI y i) :=
  bitsOp_bit k _ _ (fun _ _ _ _ => by rw [BitVec.getLsbD_xor]) x y i h
theorem andNot_bit (k : IntKind) (x y : Int) (i : Nat) (h : i < k.bits) : bitI (bitsOp k (fun a b => a &&& ~~~b) x y) i = (bitI x i && !bitI y i) :=
  bitsOp_bit k _ (fun a b => a && !b) (fun _ _ _ hi => by rw [BitVec.getLsbD_and, BitVec.getLsbD_not]; simp [hi]) x y i h

theorem bitV_ok (S : Sat ρ e) {o : BOp} {k : IntKind} {a b v : V} {s u z : Sc} (h : bitV o k e a b = .ok v) (ha : Rep ρ a s) (hb : Rep ρ b u)
    (hz : kHas k z.asInt) (hbits : ∀ i, i < k.bits → bitI z.asInt i = o.fn (bitI s.asInt i) (bitI u.asInt i)) : Rep ρ v z := by
  unfold bitV at h
  split at h
  · rename_i x y h1 h2
    refine wordOp_rep h hz ?_
    intro i hi
    rw [hbits i hi, toW_val S h1 ha, toW_val S h2 hb]
  · cases h

theorem smallMask_eq {n : Int} {m : Nat} (h : smallMask n = some m) : n = m ∧ m < 2 ^ 63 := by
  unfold smallMask at h
  split at h
  · split at h
    · rename_i hb; simp only [Nat.blt_eq] at hb; simp only [Option.some.injEq] at h; subst h; exact ⟨rfl, hb⟩
    · cases h
  · cases h

theorem testBit_small {m i : Nat} {k : Nat} (hm : m < 2 ^ k) (hi : k ≤ i) : m.testBit i = false :=
  Nat.testBit_lt_two_pow (Nat.lt_of_lt_of_le hm (Nat.pow_le_pow_right (by omega) hi))

/-- What has a small mask is a small number. -/
theorem small_of_bits {z : Int} (hz : kHas .i64 z) (h63 : bitI z 63 = false) : 0 ≤ z ∧ z < 2 ^ 63 := by
  have hz' : -2 ^ 63 ≤ z ∧ z < 2 ^ 63 := hz
  have := bitI_high z 63 63 hz'.1 hz'.2 (Nat.le_refl _)
  rw [h63] at this
  have : ¬ z < 0 := by simpa using this.symm
  exact ⟨by omega, hz'.2⟩

theorem msk_rep {x m : Nat} {z : Sc} (hz : kHas .i64 z.asInt) (hm : m < 2 ^ 63) (h : ∀ i, i < 64 → bitI z.asInt i = (m.testBit i && bitI (ρ.v x).asInt i)) : Rep ρ (.msk x m) z := by
  have h63 : bitI z.asInt 63 = false := by rw [h 63 (by omega), testBit_small hm (Nat.le_refl _)]; rfl
  obtain ⟨h1, h2⟩ := small_of_bits hz h63
  refine ⟨h1, hm, h2, ?_⟩
  intro i
  by_cases hi : i < 64
  · exact h i hi
  · rw [testBit_small hm (by omega), bitI_high z.asInt 63 i (by omega) h2 (by omega)]
    simp; omega

theorem andV_ok (S : Sat ρ e) {k : IntKind} {a b v : V} {s u z : Sc} (h : andV k e a b = .ok v) (ha : Rep ρ a s) (hb : Rep ρ b u)
    (hz : kHas k z.asInt) (hbits : ∀ i, i < k.bits → bitI z.asInt i = (bitI s.asInt i && bitI u.asInt i)) : Rep ρ v z := by
  unfold andV at h
  split at h
  · rename_i x m n
    split at h
    · rename_i n' hn
      obtain ⟨rfl, hlt⟩ := smallMask_eq hn
      simp only [Ask.ok.injEq] at h; subst h
      obtain ⟨_, hm, _, h4⟩ := ha
      have hu : u.asInt = n' := hb
      refine msk_rep hz (Nat.lt_of_le_of_lt Nat.and_le_left hm) ?_
      intro i hi
      show _ = ((m &&& n').testBit i && _)
      rw [hbits i hi, h4 i, hu, bitI_nat, Nat.testBit_and]
      cases m.testBit i <;> cases n'.testBit i <;> simp
    · exact bitV_ok S h ha hb hz hbits
  · rename_i x n
    split at h
    · rename_i n' hn
      obtain ⟨rfl, hlt⟩ := smallMask_eq hn
      simp only [Ask.ok.injEq] at h; subst h
      have hs : s = ρ.v x := ha
      have hu : u.asInt = n' := hb
      refine msk_rep hz hlt ?_
      intro i hi
      rw [hbits i hi, hs, hu, bitI_nat, Bool.and_comm]
    · exact bitV_ok S h ha hb hz hbits
  · exact bitV_ok S h ha hb hz hbits

theorem shlV_ok (S : Sat ρ e) {k : IntKind} {a v : V} {s z : Sc} {n : Nat} (h : shlV e k a n = .ok v) (ha : Rep ρ a s) (hz : n < k.bits → z.asInt = k.wrap (s.asInt * 2 ^ n)) : Rep ρ v z := by
  unfold shlV at h
  split at h
  · rename_i l t hw
    split at h
    · cases h
    · rename_i hb
      have hlt : n < k.bits := by
        cases Nat.lt_or_ge n k.bits with
        | inl h => exact h
        | inr h' => rw [Nat.ble_eq_true_of_le h'] at hb; cases hb
      simp only [Ask.ok.injEq] at h; subst h
      refine mkW_rep ρ _ _ ?_
      rw [wrapW_val, hz hlt, toW_val S hw ha, zerosL_val]
  · cases h

theorem shrV_ok (S : Sat ρ e) {k : IntKind} {a v : V} {s z : Sc} {n : Nat} (h : shrV e k a n = .ok v) (ha : Rep ρ a s) (hz : n < k.bits → z.asInt = s.asInt / 2 ^ n) : Rep ρ v z := by
  unfold shrV at h
  split at h
  · cases h
  · rename_i hb
    have hlt : n < k.bits := by
      cases Nat.lt_or_ge n k.bits with
      | inl h => exact h
      | inr h' => rw [Nat.ble_eq_true_of_le h'] at hb; cases hb
    split at h
    · rename_i l t hw
      simp only [Ask.ok.injEq] at h; subst h
      refine mkW_rep ρ _ _ ?_
      rw [hz hlt, toW_val S hw ha, drop_val]
    · cases h

theorem notA_ok {a : Ask Bool} {r : Bool} (h : notA a = .ok r) : a = .ok (!r) := by
  obtain ⟨b, h1, h2⟩ := Ask.bind_ok h
  simp only [Ask.ok.injEq] at h2; subst h2; simp [h1]

theorem isNum_eq {v : V} {n : Int} (h : isNum v = some n) : v = .num n := by
  cases v <;> simp [isNum] at h; subst h; rfl

theorem getD_map_neg (t : Lit) (l : List Lit) (i : Nat) : (l.map Lit.neg).getD i t.neg = (l.getD i t).neg := by
  simp only [List.getD, List.getElem?_map]
  cases l[i]? <;> rfl

theorem neg_bit (t : Lit) (l : List Lit) (i : Nat) : bitI (wval ρ (l.map Lit.neg) t.neg) i = !bitI (wval ρ l t) i := by
  rw [wval_bit, wval_bit, getD_map_neg, Lit.neg_val]

theorem rem_neg_two {x : Int} (h : x < 0) : x.tmod 2 = -(x % 2) := by
  have e : x.tmod 2 = -((-x).tmod 2) := by rw [Int.neg_tmod]; omega
  rw [e, Int.tmod_eq_emod_of_nonneg (by omega)]
  omega

theorem quo_has {k : IntKind} {l : List Lit} (n : Nat) (h : fitW k (l, .c false) = true) : kHas k (wval ρ (l.drop n) (.c false)) := by
  rcases fitW_parts h with ⟨hs, h⟩ | ⟨hs, h, _⟩
  · exact has_signed hs (by simp at h ⊢; omega)
  · exact has_unsigned hs (by simp at h ⊢; omega) rfl

set_option maxHeartbeats 1000000 in
theorem o2_ok (S : Sat ρ e) {o : Op2} {a b v : V} {s u : Sc} (h : o2 o a b e = .ok v) (ha : Rep ρ a s) (hb : Rep ρ b u) : Rep ρ v (o.ev s u) := by
  unfold o2 at h
  split at h
  -- add
  · rename_i k
    split at h
    · simp only [Ask.ok.injEq] at h; subst h
      have h1 : s.asInt = _ := ha
      have h2 : u.asInt = _ := hb
      show (Sc.int _).asInt = _
      rw [h1, h2]; rfl
    · split at h
      · rename_i la ta lb tb w1 w2
        obtain ⟨w, h1, h2⟩ := Ask.bind_ok h
        simp only [Ask.ok.injEq] at h2; subst h2
        refine mkW_rep ρ _ _ ?_
        rw [wrapW_val, addL_val _ _ _ _ h1, ← toW_val S w1 ha, ← toW_val S w2 hb, bi_c]
        show k.wrap (s.asInt + u.asInt) = _
        simp
      · cases h
  -- sub
  · rename_i k
    split at h
    · simp only [Ask.ok.injEq] at h; subst h
      have h1 : s.asInt = _ := ha
      have h2 : u.asInt = _ := hb
      show (Sc.int _).asInt = _
      rw [h1, h2]; rfl
    · split at h
      · rename_i la ta lb tb w1 w2
        obtain ⟨w, h1, h2⟩ := Ask.bind_ok h
        simp only [Ask.ok.injEq] at h2; subst h2
        refine mkW_rep ρ _ _ ?_
        rw [wrapW_val, addL_val _ _ _ _ h1, wval_map_neg, ← toW_val S w1 ha, ← toW_val S w2 hb, bi_c]
        show k.wrap (s.asInt - u.asInt) = _
        congr 1; simp; omega
      · cases h
  -- mul
  · rename_i k
    split at h
    · simp only [Ask.ok.injEq] at h; subst h
      have h1 : s.asInt = _ := ha
      have h2 : u.asInt = _ := hb
      show (Sc.int _).asInt = _
      rw [h1, h2]; rfl
    · rename_i y _
      have h2 : u.asInt = y := hb
      split at h
      · rename_i n hn
        refine shlV_ok S h ha (fun _ => ?_)
        show k.wrap (s.asInt * u.asInt) = _
        rw [h2, twoPow?_eq hn]
      · cases h
    · rename_i y _
      have h2 : s.asInt = y := ha
      split at h
      · rename_i n hn
        refine shlV_ok S h hb (fun _ => ?_)
        show k.wrap (s.asInt * u.asInt) = _
        rw [h2, twoPow?_eq hn, Int.mul_comm]
      · cases h
    · cases h
  -- quo
  · rename_i k
    split at h
    · simp only [Ask.ok.injEq] at h; subst h
      have h1 : s.asInt = _ := ha
      have h2 : u.asInt = _ := hb
      show (Sc.int _).asInt = _
      rw [h1, h2]; rfl
    · rename_i y _
      have h2 : u.asInt = y := hb
      split at h
      · rename_i n l t hn hw
        have h1 := toW_val S hw ha
        split at h
        · split at h
          · rename_i hf
            simp only [Ask.ok.injEq] at h; subst h
            refine mkW_rep ρ _ _ ?_
            show k.wrap (s.asInt.tdiv u.asInt) = _
            have hnn : 0 ≤ s.asInt := by rw [h1]; exact wval_nonneg ρ rfl l
            rw [h2, twoPow?_eq hn, Int.tdiv_eq_ediv_of_nonneg hnn, h1, ← drop_val]
            exact wrap_of_has (quo_has n hf)
          · cases h
        · cases h
        · exact (askL_ok h).elim
      · cases h
    · cases h
  -- rem
  · split at h
    · simp only [Ask.ok.injEq] at h; subst h
      have h1 : s.asInt = _ := ha
      have h2 : u.asInt = _ := hb
      show (Sc.int _).asInt = _
      rw [h1, h2]; rfl
    · rename_i y _
      have h2 : u.asInt = y := hb
      split at h
      · rename_i n l t hn hw
        have h1 := toW_val S hw ha
        split at h
        · simp only [Ask.ok.injEq] at h; subst h
          refine mkW_rep ρ _ _ ?_
          show s.asInt.tmod u.asInt = _
          have hnn : 0 ≤ s.asInt := by rw [h1]; exact wval_nonneg ρ rfl l
          rw [h2, twoPow?_eq hn, Int.tmod_eq_emod_of_nonneg hnn, h1]
          rcases take_val (ρ := ρ) n l (.c false) with h3 | ⟨h3, h4⟩
          · exact h3.symm
          · rw [h4]
            have hr := wval_range ρ (.c false) l
            have hp : (2 : Int) ^ l.length ≤ 2 ^ n := pow_mono_int (by omega)
            exact Int.emod_eq_of_lt (wval_nonneg ρ rfl l) (by omega)
        · split at h
          · rename_i b l' 
            simp only [Ask.ok.injEq] at h; subst h
            refine mkW_rep ρ _ _ ?_
            show s.asInt.tmod u.asInt = _
            have hlt : s.asInt < 0 := by rw [h1]; exact wval_neg ρ rfl _
            show _ = wval ρ [b] b
            rw [h2, twoPow?_eq hn, show (2 : Int) ^ 1 = 2 from rfl, rem_neg_two hlt, h1, wval_cons, wval_cons, wval_nil]
            have := bi_bound (ρ := ρ) b
            omega
          · cases h
        · exact (askL_ok h).elim
      · cases h
    · cases h
  -- and
  · rename_i k
    exact andV_ok S h ha hb (bitsOp_has _ _ _ _) (fun i hi => and_bit k _ _ i hi)
  · rename_i k
    exact bitV_ok S h ha hb (bitsOp_has _ _ _ _) (fun i hi => or_bit k _ _ i hi)
  · rename_i k
    exact bitV_ok S h ha hb (bitsOp_has _ _ _ _) (fun i hi => xor_bit k _ _ i hi)
  -- andNot
  · rename_i k
    split at h
    · rename_i x y w1 w2
      have h1 := toW_val S w1 ha
      have h2 := toW_val S w2 hb
      have hz : (Op2.ev (.andNot k) s u).asInt = bitsOp k (fun a b => a &&& ~~~b) s.asInt u.asInt := rfl
      have hh : kHas k (Op2.ev (.andNot k) s u).asInt := by rw [hz]; exact bitsOp_has _ _ _ _
      have hbit : ∀ i, i < k.bits → bitI (Op2.ev (.andNot k) s u).asInt i = (bitI (wval ρ x.1 x.2) i && !bitI (wval ρ y.1 y.2) i) := by
        intro i hi; rw [hz, andNot_bit k _ _ i hi, h1, h2]
      split at h
      · refine wordOp_rep h hh ?_
        intro i hi
        rw [neg_bit, hbit i hi]; rfl
      · split at h
        · refine wordOp_rep h hh ?_
          intro i hi
          rw [hbit i hi]
          show (_ && _) = (_ && _)
          congr 1
          rw [wval_bit, wval_bit]
          have : ((extL y.2 k.bits y.1).map Lit.neg)[i]? = some (y.1.getD i y.2).neg := by
            rw [List.getElem?_map, extL_get _ _ _ _ hi]; rfl
          rw [getD_get this, Lit.neg_val]
        · cases h
    · cases h
  -- shl
  · rename_i k
    obtain ⟨n, h1, h2⟩ := Ask.bind_ok h
    have hn := lit?V_ok S h1 hb
    refine shlV_ok S h2 ha (fun hlt => ?_)
    show shlOp k s.asInt u.asInt = _
    unfold shlOp
    rw [hn]
    simp only [Int.toNat_natCast]
    rw [Nat.min_eq_left (Nat.le_of_lt hlt)]
  -- shr
  · rename_i k
    obtain ⟨n, h1, h2⟩ := Ask.bind_ok h
    have hn := lit?V_ok S h1 hb
    refine shrV_ok S h2 ha (fun hlt => ?_)
    show shrOp k s.asInt u.asInt = _
    unfold shrOp
    rw [hn]
    simp only [Int.toNat_natCast]
    rw [Nat.min_eq_left (Nat.le_of_lt hlt), Int.fdiv_eq_ediv_of_nonneg _ (Int.le_of_lt (Int.pow_pos (by omega)))]
  -- eq
  · obtain ⟨r, h1, h2⟩ := Ask.bind_ok h
    simp only [Ask.ok.injEq] at h2; subst h2
    show (s.asInt == u.asInt) = r
    rw [eqV_ok S h1 ha hb]; rfl
  -- le
  · obtain ⟨r, h1, h2⟩ := Ask.bind_ok h
    simp only [Ask.ok.injEq] at h2; subst h2
    show decide (s.asInt ≤ u.asInt) = r
    split at h1
    · rename_i x y hx hy
      rw [isNum_eq hx] at ha; rw [isNum_eq hy] at hb
      have e1 : s.asInt = x := ha
      have e2 : u.asInt = y := hb
      simp only [Ask.ok.injEq] at h1; rw [e1, e2, h1]
    · rename_i y hx hy
      rw [isNum_eq hy] at hb
      have e2 : u.asInt = y := hb
      rw [e2, leV_ok S h1 ha]
    · rename_i x hx hy
      rw [isNum_eq hx] at ha
      have e1 : s.asInt = x := ha
      have := leV_ok S (notA_ok h1) hb
      rw [e1, show r = !!r by simp, this, ← decide_not]
      exact decide_eq_decide.2 (by omega)
    · cases h1
  -- lt
  · obtain ⟨r, h1, h2⟩ := Ask.bind_ok h
    simp only [Ask.ok.injEq] at h2; subst h2
    show decide (s.asInt < u.asInt) = r
    split at h1
    · rename_i x y hx hy
      rw [isNum_eq hx] at ha; rw [isNum_eq hy] at hb
      have e1 : s.asInt = x := ha
      have e2 : u.asInt = y := hb
      simp only [Ask.ok.injEq] at h1; rw [e1, e2, h1]
    · rename_i y hx hy
      rw [isNum_eq hy] at hb
      have e2 : u.asInt = y := hb
      rw [e2, leV_ok S h1 ha]
      exact decide_eq_decide.2 (by omega)
    · rename_i x hx hy
      rw [isNum_eq hx] at ha
      have e1 : s.asInt = x := ha
      have := leV_ok S (notA_ok h1) hb
      rw [e1, show r = !!r by simp, this, ← decide_not]
      exact decide_eq_decide.2 (by omega)
    · cases h1
  -- beq
  · obtain ⟨x, h1, h2⟩ := Ask.bind_ok h
    obtain ⟨y, h3, h4⟩ := Ask.bind_ok h2
    simp only [Ask.ok.injEq] at h4; subst h4
    show (s.asBool == u.asBool) = _
    rw [truthV_ok S h1 ha, truthV_ok S h3 hb]
  · cases h

theorem o1_ok (S : Sat ρ e) (hk : ∀ x ∈ e.ik, ∃ n, ρ.v x = .int n) {o : Op1} {a v : V} {s : Sc} (h : o1 o a e = .ok v) (ha : Rep ρ a s) : Rep ρ v (o.ev s) := by
  unfold o1 at h
  split at h
  · rename_i k
    split at h
    · simp only [Ask.ok.injEq] at h; subst h
      have h1 : s.asInt = _ := ha
      show (Sc.int _).asInt = _
      rw [h1]; rfl
    · rename_i x
      have hs : s = ρ.v x := ha
      simp only at h
      split at h
      · rename_i hc
        simp only [Bool.and_eq_true, decide_eq_true_eq, Nat.blt_eq] at hc
        obtain ⟨⟨c1, c2⟩, c3⟩ := hc
        simp only [Ask.ok.injEq] at h; subst h
        obtain ⟨n, hn⟩ := hk x (by simpa using c3)
        have R := S.rs x
        show Sc.int (k.wrap s.asInt) = ρ.v x
        rw [hs, hn]
        congr 1
        simp only [Sc.asInt_int]
        rw [hn] at R
        simp only [Sc.asInt_int] at R
        have h1 := R.lo
        have h2 := R.hi
        have h3 := (intLen_range (findR e.rs x).hi).2
        have h4 : (2 : Int) ^ intLen (findR e.rs x).hi ≤ 2 ^ (k.bits - 1) := pow_mono_int (by omega)
        have h5 := two_bits k
        refine wrap_of_has ?_
        unfold kHas
        split <;> omega
      · split at h
        · rename_i w hw
          simp only [Ask.ok.injEq] at h; subst h
          refine mkW_rep ρ _ _ ?_
          rw [wrapW_val, ← toW_val S hw ha]; rfl
        · cases h
    · split at h
      · rename_i w hw
        simp only [Ask.ok.injEq] at h; subst h
        refine mkW_rep ρ _ _ ?_
        rw [wrapW_val, ← toW_val S hw ha]; rfl
      · cases h
  · obtain ⟨b, h1, h2⟩ := Ask.bind_ok h
    simp only [Ask.ok.injEq] at h2; subst h2
    show (!s.asBool) = _
    rw [truthV_ok S h1 ha]
  · cases h

end
end Go.Sx
