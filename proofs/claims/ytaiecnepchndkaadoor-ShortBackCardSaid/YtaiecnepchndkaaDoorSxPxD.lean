/- The decider's comparisons and operations are right. -/
import Derived.Test.YtaiecnepchndkaaDoorSxPxC
namespace Go.Sx

section
variable {ρ : Env} {e : Kn}

theorem pairQ_spec {a b : Lit} {q : Option Sp} {k : Option Sp → Ask Bool} {r : Bool} (h : pairQ a b q k = .ok r) :
    (r = false ∧ a.val ρ ≠ b.val ρ) ∨ ∃ q', k q' = .ok r ∧ (q' = none → q = none ∧ a.val ρ = b.val ρ) := by
  unfold pairQ at h
  split at h
  · split at h
    · rename_i x y e; subst e; exact .inr ⟨q, h, fun hq => ⟨hq, rfl⟩⟩
    · rename_i x y e; simp only [Ask.ok.injEq] at h; exact .inl ⟨h.symm, e⟩
  · exact .inr ⟨_, h, fun hq => by cases q <;> simp at hq⟩
  · exact .inr ⟨_, h, fun hq => by cases q <;> simp at hq⟩
  · rename_i x i n y j m
    split at h
    · rename_i hb
      simp only [Bool.and_eq_true] at hb
      have h1 := Nat.eq_of_beq_eq_true hb.1
      have h2 := Nat.eq_of_beq_eq_true hb.2
      subst h1 h2
      split at h
      · rename_i e; subst e; exact .inr ⟨q, h, fun hq => ⟨hq, rfl⟩⟩
      · rename_i hne
        simp only [Ask.ok.injEq] at h
        refine .inl ⟨h.symm, ?_⟩
        simp only [Lit.val]
        cases bitI (ρ.v x).asInt i <;> cases n <;> cases m <;> simp_all
    · exact .inr ⟨_, h, fun hq => by cases q <;> simp at hq⟩

theorem wval_inj_cons {a b : Lit} {la lb : List Lit} {ta tb : Lit} : wval ρ (a :: la) ta = wval ρ (b :: lb) tb ↔ a.val ρ = b.val ρ ∧ wval ρ la ta = wval ρ lb tb := by
  rw [wval_cons, wval_cons]
  have h1 := bi_bound (ρ := ρ) a
  have h2 := bi_bound (ρ := ρ) b
  constructor
  · intro h
    have : bi ρ a = bi ρ b := by omega
    refine ⟨?_, by omega⟩
    unfold bi at this
    cases h3 : a.val ρ <;> cases h4 : b.val ρ <;> simp_all
  · rintro ⟨h3, h4⟩
    have : bi ρ a = bi ρ b := by unfold bi; rw [h3]
    omega

theorem wval_nil_cons (t : Lit) : wval ρ [] t = wval ρ [t] t := by rw [wval_cons]; exact wval_nil' t

theorem eqB_val {ta tb : Lit} : ∀ (lb : List Lit) (q : Option Sp) (r : Bool), eqB ta tb lb q = .ok r →
    (r = false → wval ρ [] ta ≠ wval ρ lb tb) ∧ (r = true → q = none ∧ wval ρ [] ta = wval ρ lb tb)
  | [], q, r, h => by
    unfold eqB at h
    rw [wval_nil_cons ta, wval_nil_cons tb]
    rcases pairQ_spec (ρ := ρ) h with ⟨rfl, hne⟩ | ⟨q', hk, hq⟩
    · exact ⟨fun _ he => hne (wval_inj_cons.1 he).1, by simp⟩
    · cases q' with
      | none =>
        simp only [Ask.ok.injEq] at hk; subst hk
        obtain ⟨h1, h2⟩ := hq rfl
        refine ⟨by simp, fun _ => ⟨h1, wval_inj_cons.2 ⟨h2, ?_⟩⟩⟩
        unfold wval; rw [h2]
      | some s => cases hk
  | b :: lb, q, r, h => by
    unfold eqB at h
    rw [wval_nil_cons ta]
    rcases pairQ_spec (ρ := ρ) h with ⟨rfl, hne⟩ | ⟨q', hk, hq⟩
    · exact ⟨fun _ he => hne (wval_inj_cons.1 he).1, by simp⟩
    · obtain ⟨h1, h2⟩ := eqB_val lb q' r hk
      exact ⟨fun hr he => h1 hr (wval_inj_cons.1 he).2, fun hr => ⟨(hq (h2 hr).1).1, wval_inj_cons.2 ⟨(hq (h2 hr).1).2, (h2 hr).2⟩⟩⟩

theorem eqL_val {ta tb : Lit} : ∀ (la lb : List Lit) (q : Option Sp) (r : Bool), eqL ta tb la lb q = .ok r →
    (r = false → wval ρ la ta ≠ wval ρ lb tb) ∧ (r = true → q = none ∧ wval ρ la ta = wval ρ lb tb)
  | [], lb, q, r, h => by
    unfold eqL at h
    exact eqB_val lb q r h
  | a :: la, [], q, r, h => by
    unfold eqL at h
    rw [wval_nil_cons tb]
    rcases pairQ_spec (ρ := ρ) h with ⟨rfl, hne⟩ | ⟨q', hk, hq⟩
    · exact ⟨fun _ he => hne (wval_inj_cons.1 he).1, by simp⟩
    · obtain ⟨h1, h2⟩ := eqL_val la [] q' r hk
      exact ⟨fun hr he => h1 hr (wval_inj_cons.1 he).2, fun hr => ⟨(hq (h2 hr).1).1, wval_inj_cons.2 ⟨(hq (h2 hr).1).2, (h2 hr).2⟩⟩⟩
  | a :: la, b :: lb, q, r, h => by
    unfold eqL at h
    rcases pairQ_spec (ρ := ρ) h with ⟨rfl, hne⟩ | ⟨q', hk, hq⟩
    · exact ⟨fun _ he => hne (wval_inj_cons.1 he).1, by simp⟩
    · obtain ⟨h1, h2⟩ := eqL_val la lb q' r hk
      exact ⟨fun hr he => h1 hr (wval_inj_cons.1 he).2, fun hr => ⟨(hq (h2 hr).1).1, wval_inj_cons.2 ⟨(hq (h2 hr).1).2, (h2 hr).2⟩⟩⟩

theorem dec_of {p : Prop} [Decidable p] {r : Bool} (h0 : r = false → ¬p) (h1 : r = true → p) : r = decide p := by
  cases r
  · exact (decide_eq_false (h0 rfl)).symm
  · exact (decide_eq_true (h1 rfl)).symm

theorem eqWords_ok (S : Sat ρ e) {a b : V} {s u : Sc} {r : Bool} (h : eqWords e a b = .ok r) (ha : Rep ρ a s) (hb : Rep ρ b u) : r = decide (s.asInt = u.asInt) := by
  unfold eqWords at h
  split at h
  · rename_i la ta lb tb h1 h2
    obtain ⟨k0, k1⟩ := eqL_val (ρ := ρ) la lb none r h
    rw [toW_val S h1 ha, toW_val S h2 hb]
    exact dec_of k0 (fun hr => (k1 hr).2)
  · cases h

theorem low64_bit (c : Int) (i : Nat) (h : i < 64) : (low64 c).testBit i = bitI c i := by
  rw [← bitI_nat]
  have e : ((low64 c : Nat) : Int) = c % 2 ^ 64 := by
    unfold low64
    exact Int.toNat_of_nonneg (Int.emod_nonneg _ (by decide))
  rw [e]; exact bitI_emod c 64 i h

theorem low64_lt (c : Int) : low64 c < 2 ^ 64 := by unfold low64; omega

theorem eqRaw_ok (S : Sat ρ e) {x : Nat} {c : Int} {r : Bool} (h : eqRaw e x c = .ok r) : r = decide ((ρ.v x).asInt = c) := by
  have R := S.rs x
  unfold eqRaw at h
  simp only at h
  split at h
  · rename_i hb
    simp only [Bool.or_eq_true, decide_eq_true_eq] at hb
    simp only [Ask.ok.injEq] at h; subst h
    exact dec_of (fun _ he => by have := R.lo; have := R.hi; omega) (by simp)
  · rename_i hb
    simp only [Bool.or_eq_false_iff, decide_eq_false_iff_not] at hb
    split at h
    · rename_i he
      simp only [decide_eq_true_eq] at he
      simp only [Ask.ok.injEq] at h; subst h
      exact dec_of (by simp) (fun _ => by have := R.lo; have := R.hi; omega)
    · split at h
      · rename_i hc
        simp only [Ask.ok.injEq] at h; subst h
        exact dec_of (fun _ he => R.ne c (by simpa using hc) he) (by simp)
      · split at h
        · rename_i hx
          simp only [Ask.ok.injEq] at h; subst h
          refine dec_of (fun _ he => ?_) (by simp)
          have hne : Nat.land (Nat.xor (findR e.rs x).kv (low64 c)) (findR e.rs x).km ≠ 0 := by
            intro h0; rw [h0] at hx; cases hx
          apply hne
          apply Nat.eq_of_testBit_eq
          intro i
          show (((findR e.rs x).kv ^^^ low64 c) &&& (findR e.rs x).km).testBit i = _
          rw [Nat.testBit_and, Nat.testBit_xor, Nat.zero_testBit]
          cases hk : (findR e.rs x).km.testBit i
          · simp
          · have hi : i < 64 := by
              by_cases hi : i < 64
              · exact hi
              · rw [Nat.testBit_lt_two_pow (Nat.lt_of_lt_of_le R.km (Nat.pow_le_pow_right (by omega) (by omega)))] at hk; cases hk
            rw [low64_bit c i hi, ← he, R.bits i hi hk]; simp
        · cases h

theorem eqMsk_ok (S : Sat ρ e) {x m : Nat} {c : Int} {r : Bool} {s : Sc} (h : eqMsk e x m c = .ok r) (hs : Rep ρ (.msk x m) s) : r = decide (s.asInt = c) := by
  have R := S.rs x
  obtain ⟨h1, h2, h3, h4⟩ := hs
  unfold eqMsk at h
  split at h
  · simp only [Ask.ok.injEq] at h; subst h
    exact dec_of (fun _ he => by rw [he] at h1; exact absurd h1 (by omega)) (by simp)
  · rename_i c
    have hcm : Int.ofNat c = (c : Int) := rfl
    split at h
    · rename_i hb
      simp only [Ask.ok.injEq] at h; subst h
      refine dec_of (fun _ he => ?_) (by simp)
      have : Nat.land c m = c := by
        apply Nat.eq_of_testBit_eq
        intro i
        show (c &&& m).testBit i = _
        rw [Nat.testBit_and, ← bitI_nat c i, ← hcm, ← he, h4 i]
        cases m.testBit i <;> simp
      rw [this] at hb
      simp at hb
    · rename_i hb
      have hcm' := Nat.eq_of_beq_eq_true hb
      simp only at h
      split at h
      · rename_i hx
        simp only [Ask.ok.injEq] at h; subst h
        refine dec_of (fun _ he => ?_) (by simp)
        have hne : Nat.land (Nat.land (Nat.xor (findR e.rs x).kv c) (findR e.rs x).km) m ≠ 0 := by
          intro h0; rw [h0] at hx; cases hx
        apply hne
        apply Nat.eq_of_testBit_eq
        intro i
        show ((((findR e.rs x).kv ^^^ c) &&& (findR e.rs x).km) &&& m).testBit i = _
        rw [Nat.testBit_and, Nat.testBit_and, Nat.testBit_xor, Nat.zero_testBit]
        cases hk : (findR e.rs x).km.testBit i
        · simp
        · have hi : i < 64 := by
            by_cases hi : i < 64
            · exact hi
            · rw [Nat.testBit_lt_two_pow (Nat.lt_of_lt_of_le R.km (Nat.pow_le_pow_right (by omega) (by omega)))] at hk; cases hk
          rw [← bitI_nat c i, ← hcm, ← he, h4 i, R.bits i hi hk]
          cases m.testBit i <;> simp
      · rename_i hx
        have hz := Nat.eq_of_beq_eq_true hx
        split at h
        · rename_i hu
          simp only [Ask.ok.injEq] at h; subst h
          refine dec_of (by simp) (fun _ => ?_)
          have hc63 : c < 2 ^ 63 := Nat.lt_of_le_of_lt (by rw [← hcm']; exact Nat.and_le_right) h2
          refine eq_of_bits 63 _ _ h1 h3 (by omega) (by rw [hcm]; exact_mod_cast hc63) ?_
          intro i hi
          rw [h4 i, hcm, bitI_nat]
          have b1 : (c &&& m).testBit i = c.testBit i := by show (Nat.land c m).testBit i = _; rw [hcm']
          have b2 : ((((findR e.rs x).kv ^^^ c) &&& (findR e.rs x).km) &&& m).testBit i = false := by
            show (Nat.land (Nat.land (Nat.xor (findR e.rs x).kv c) (findR e.rs x).km) m).testBit i = _; rw [hz]; simp
          have b3 : (m &&& (ones64 ^^^ (findR e.rs x).km)).testBit i = false := by
            show (Nat.land m (Nat.xor ones64 (findR e.rs x).km)).testBit i = _; rw [hu]; simp
          rw [Nat.testBit_and] at b1
          rw [Nat.testBit_and, Nat.testBit_and, Nat.testBit_xor] at b2
          rw [Nat.testBit_and, Nat.testBit_xor] at b3
          have b4 : ones64.testBit i = true := by
            show (2 ^ 64 - 1).testBit i = true
            rw [Nat.testBit_two_pow_sub_one]; simp; omega
          rw [b4] at b3
          cases hm : m.testBit i
          · rw [hm] at b1; simp at b1; simp [b1]
          · rw [hm] at b2 b3
            simp at b3
            rw [R.bits i (by omega) b3]
            rw [b3] at b2
            simp at b2
            simp [b2]
        · cases h

theorem eqV_ok (S : Sat ρ e) {a b : V} {s u : Sc} {r : Bool} (h : eqV e a b = .ok r) (ha : Rep ρ a s) (hb : Rep ρ b u) : r = decide (s.asInt = u.asInt) := by
  unfold eqV at h
  split at h
  · simp only [Ask.ok.injEq] at h; subst h
    have h1 : s.asInt = _ := ha
    have h2 : u.asInt = _ := hb
    rw [h1, h2]
  · have h1 : s = _ := ha
    have h2 : u.asInt = _ := hb
    rw [h1, h2]; exact eqRaw_ok S h
  · have h1 : s.asInt = _ := ha
    have h2 : u = _ := hb
    rw [h1, h2, eqRaw_ok S h]; exact decide_eq_decide.2 ⟨Eq.symm, Eq.symm⟩
  · have h2 : u.asInt = _ := hb
    split at h
    · rw [h2]; exact eqMsk_ok S h ha
    · exact eqWords_ok S h ha hb
  · have h1 : s.asInt = _ := ha
    split at h
    · rw [h1, eqMsk_ok S h hb]; exact decide_eq_decide.2 ⟨Eq.symm, Eq.symm⟩
    · rw [eqWords_ok S h hb ha]; exact decide_eq_decide.2 ⟨Eq.symm, Eq.symm⟩
  · split at h
    · rename_i hx
      have := Nat.eq_of_beq_eq_true hx
      subst this
      have h1 : s = _ := ha
      have h2 : u = _ := hb
      simp only [Ask.ok.injEq] at h; subst h
      rw [h1, h2]; simp
    · exact eqWords_ok S h ha hb
  · exact eqWords_ok S h ha hb

theorem boundL_low : ∀ (l : List Lit) (b : Bool), boundL false l (.c b) ≤ wval ρ l (.c b)
  | [], b => by cases b <;> simp [boundL, wval, Lit.val]
  | .c a :: l, b => by have := boundL_low l b; rw [wval_cons, bi_c]; simp only [boundL]; cases a <;> simp <;> omega
  | .v x i n :: l, b => by have := boundL_low l b; rw [wval_cons]; have := bi_bound (ρ := ρ) (.v x i n); simp only [boundL]; omega

theorem boundL_high : ∀ (l : List Lit) (b : Bool), wval ρ l (.c b) ≤ boundL true l (.c b)
  | [], b => by cases b <;> simp [boundL, wval, Lit.val]
  | .c a :: l, b => by have := boundL_high l b; rw [wval_cons, bi_c]; simp only [boundL]; cases a <;> simp <;> omega
  | .v x i n :: l, b => by have := boundL_high l b; rw [wval_cons]; have := bi_bound (ρ := ρ) (.v x i n); simp only [boundL]; omega

theorem cnt_parts : ∀ l : List Lit, cntV ρ l = ones l + cntV ρ (opens l)
  | [] => rfl
  | .c true :: l => by simp only [cntV, ones, opens, Lit.val, cnt_parts l]; simp; omega
  | .c false :: l => by simp only [cntV, ones, opens, Lit.val, cnt_parts l]; simp
  | .v x i n :: l => by simp only [cntV, ones, opens, cnt_parts l]; omega

theorem cntV_map (S : Sat ρ e) : ∀ l : List Lit, cntV ρ (l.map (resL e 4)) = cntV ρ l
  | [] => rfl
  | t :: l => by simp only [List.map_cons, cntV, resL_val S, cntV_map S l]

theorem cntV_le : ∀ l : List Lit, cntV ρ l ≤ l.length
  | [] => Nat.le_refl _
  | t :: l => by have := cntV_le l; simp only [cntV, List.length_cons]; split <;> omega

theorem findC_ok (S : Sat ρ e) : ∀ (cs : List (List Lit × Nat × Nat)) (l : List Lit), (∀ l a b, (l, a, b) ∈ cs → a ≤ cntV ρ l ∧ cntV ρ l ≤ b) → (findC e cs l).1 ≤ cntV ρ l ∧ cntV ρ l ≤ (findC e cs l).2
  | [], l, _ => ⟨Nat.zero_le _, cntV_le l⟩
  | (k, a, b) :: r, l, h => by
    unfold findC
    simp only
    split
    · rename_i hk
      obtain ⟨h1, h2⟩ := h k a b (by simp)
      have h3 := cnt_parts (ρ := ρ) (k.map (resL e 4))
      rw [cntV_map S, hk] at h3
      simp only
      omega
    · exact findC_ok S r l (fun l a b hm => h l a b (by simp [hm]))

theorem leV_ok (S : Sat ρ e) {a : V} {c : Int} {s : Sc} {r : Bool} (h : leV e a c = .ok r) (ha : Rep ρ a s) : r = decide (s.asInt ≤ c) := by
  have words : ∀ (l : List Lit) (b : Bool) (n : Int) (q : Ask Bool), n = wval ρ l (.c b) → (match decide (boundL true l (.c b) ≤ c) with
      | true => Ask.ok true
      | false => match decide (c < boundL false l (.c b)) with
        | true => Ask.ok false
        | false => q) = .ok r → r = decide (n ≤ c) ∨ q = .ok r := by
    intro l b n q hn h
    have h1 := boundL_low (ρ := ρ) l b
    have h2 := boundL_high (ρ := ρ) l b
    split at h
    · rename_i hd; simp only [decide_eq_true_eq] at hd
      simp only [Ask.ok.injEq] at h; subst h
      exact .inl (dec_of (by simp) (fun _ => by omega))
    · split at h
      · rename_i hd; simp only [decide_eq_true_eq] at hd
        simp only [Ask.ok.injEq] at h; subst h
        exact .inl (dec_of (fun _ => by omega) (by simp))
      · exact .inr h
  have other : ∀ a : V, Rep ρ a s → (match toW e a with
    | some (l, .c b) =>
      match decide (boundL true l (.c b) ≤ c) with
      | true => Ask.ok true
      | false => match decide (c < boundL false l (.c b)) with
        | true => Ask.ok false
        | false => match topUnknown l none with
          | some t => askL t
          | none => .fail
    | some (_, t) => askL t
    | none => .fail) = .ok r → r = decide (s.asInt ≤ c) := by
    intro a ha h
    split at h
    · rename_i l b hw
      rcases words l b _ _ (toW_val S hw ha) h with h | h
      · exact h
      · split at h
        · exact (askL_ok h).elim
        · cases h
    · exact (askL_ok h).elim
    · cases h
  unfold leV at h
  split at h
  · simp only [Ask.ok.injEq] at h; subst h
    have h1 : s.asInt = _ := ha
    rw [h1]
  · rename_i x
    have h1 : s = _ := ha
    subst h1
    have R := S.rs x
    simp only at h
    split at h
    · rename_i hd; simp only [decide_eq_true_eq] at hd
      simp only [Ask.ok.injEq] at h; subst h
      exact dec_of (by simp) (fun _ => by have := R.hi; omega)
    · split at h
      · rename_i hd; simp only [decide_eq_true_eq] at hd
        simp only [Ask.ok.injEq] at h; subst h
        exact dec_of (fun _ => by have := R.lo; omega) (by simp)
      · split at h
        · cases h
        · split at h
          · rename_i b hb
            have hw : toW e (.raw x) = some (rawBits e x (findR e.rs x).len 0, .c b) := by simp only [toW, hb]
            rcases words _ b _ _ (toW_val S hw rfl) h with h | h
            · exact h
            · cases h
          · cases h
  · rename_i l
    have h1 : s.asInt = _ := ha
    simp only at h
    have hp := cnt_parts (ρ := ρ) (l.map (resL e 4))
    rw [cntV_map S] at hp
    have hf := findC_ok S e.cs (opens (l.map (resL e 4))) S.cs
    split at h
    · rename_i n hn
      simp only [Ask.ok.injEq] at h; subst h
      refine dec_of (fun _ => by rw [h1]; omega) (by simp)
    · rename_i n hn
      have hn' : c - (ones (l.map (resL e 4)) : Int) = (n : Int) := hn
      split at h
      · rename_i hd
        have := Nat.le_of_ble_eq_true hd
        simp only [Ask.ok.injEq] at h; subst h
        exact dec_of (by simp) (fun _ => by rw [h1]; omega)
      · split at h
        · rename_i hd
          simp only [Nat.blt_eq] at hd
          simp only [Ask.ok.injEq] at h; subst h
          exact dec_of (fun _ => by rw [h1]; omega) (by simp)
        · split at h
          · exact (askL_ok h).elim
          · cases h
  · exact other _ ha h

theorem lit?V_ok (S : Sat ρ e) {v : V} {s : Sc} {n : Nat} (h : lit?V e v = .ok n) (hv : Rep ρ v s) : s.asInt = n := by
  unfold lit?V at h
  split at h
  · simp only [Ask.ok.injEq] at h; subst h; exact hv
  · cases h
  · split at h
    · rename_i l t hw
      have h1 := toW_val S hw hv
      have h2 := mkW_rep ρ (l, t) s h1
      split at h
      · rename_i m hm
        simp only [Ask.ok.injEq] at h; subst h
        rw [hm] at h2; exact h2
      · split at h
        · exact (askL_ok h).elim
        · exact (askL_ok h).elim
    · cases h

theorem twoPow?_eq {n : Int} {k : Nat} (h : twoPow? n = some k) : n = 2 ^ k := by
  unfold twoPow? at h
  split at h
  · rename_i n
    split at h
    · rename_i hb
      simp only [Option.some.injEq] at h; subst h
      have := Nat.eq_of_beq_eq_true hb
      show ((n : Nat) : Int) = _
      conv => lhs; rw [← this]
      show ((2 ^ Nat.log2 n : Nat) : Int) = _
      push_cast; rfl
    · cases h
  · cases h

end
end Go.Sx
