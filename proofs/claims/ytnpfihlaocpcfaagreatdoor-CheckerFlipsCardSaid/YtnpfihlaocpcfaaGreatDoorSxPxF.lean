/- The decider's comparisons and operations are right. -/
import Derived.Test.YtnpfihlaocpcfaaGreatDoorSxPxC
namespace Go.Sx
noncomputable section

section
variable {ρ : Env} {e : Kn}

theorem pairQ_spec {a b : Lit} {q : Option Sp} {k : Option Sp → Ask Bool} {r : Bool} (h : pairQ a b q k = .ok r) :
    (r = false ∧ a.val ρ ≠ b.val ρ) ∨ ∃ q', k q' = .ok r ∧ (q' = none → q = none ∧ a.val ρ = b.val ρ) := by
  unfold pairQ at h
  split at h
  · split at h
    · rename_i x y e; subst e; exact .inr ⟨q, h, fun hq => ⟨hq, rfl⟩⟩
    · rename_i x y e; simp only [Ask.ok.injEq] at h; exact .inl ⟨h.symm, e⟩
  · exact .inr ⟨_, h, fun hq => by cases q <;> simp at hq⟩
  · exact .inr ⟨_, h, fun hq => by cases q <;> simp at hq⟩
  · rename_i x i n y j m
    split at h
    · rename_i hb
      simp only [Bool.and_eq_true] at hb
      have h1 := Nat.eq_of_beq_eq_true hb.1
      have h2 := Nat.eq_of_beq_eq_true hb.2
      subst h1 h2
      split at h
      · rename_i e; subst e; exact .inr ⟨q, h, fun hq => ⟨hq, rfl⟩⟩
      · rename_i hne
        simp only [Ask.ok.injEq] at h
        refine .inl ⟨h.symm, ?_⟩
        simp only [Lit.val]
        cases bitI (ρ.v x).asInt i <;> cases n <;> cases m <;> simp_all
    · exact .inr ⟨_, h, fun hq => by cases q <;> simp at hq⟩

theorem wval_inj_cons {a b : Lit} {la lb : List Lit} {ta tb : Lit} : wval ρ (a :: la) ta = wval ρ (b :: lb) tb ↔ a.val ρ = b.val ρ ∧ wval ρ la ta = wval ρ lb tb := by
  rw [wval_cons, wval_cons]
  have h1 := bi_bound (ρ := ρ) a
  have h2 := bi_bound (ρ := ρ) b
  constructor
  · intro h
    have : bi ρ a = bi ρ b := by omega
    refine ⟨?_, by omega⟩
    unfold bi at this
    cases h3 : a.val ρ <;> cases h4 : b.val ρ <;> simp_all
  · rintro ⟨h3, h4⟩
    have : bi ρ a = bi ρ b := by unfold bi; rw [h3]
    omega

theorem wval_nil_cons (t : Lit) : wval ρ [] t = wval ρ [t] t := by rw [wval_cons]; exact wval_nil' t

theorem eqB_val {ta tb : Lit} : ∀ (lb : List Lit) (q : Option Sp) (r : Bool), eqB ta tb lb q = .ok r →
    (r = false → wval ρ [] ta ≠ wval ρ lb tb) ∧ (r = true → q = none ∧ wval ρ [] ta = wval ρ lb tb)
  | [], q, r, h => by
    unfold eqB at h
    rw [wval_nil_cons ta, wval_nil_cons tb]
    rcases pairQ_spec (ρ := ρ) h with ⟨rfl, hne⟩ | ⟨q', hk, hq⟩
    · exact ⟨fun _ he => hne (wval_inj_cons.1 he).1, by simp⟩
    · cases q' with
      | none =>
        simp only [Ask.ok.injEq] at hk; subst hk
        obtain ⟨h1, h2⟩ := hq rfl
        refine ⟨by simp, fun _ => ⟨h1, wval_inj_cons.2 ⟨h2, ?_⟩⟩⟩
        unfold wval; rw [h2]
      | some s => cases hk
  | b :: lb, q, r, h => by
    unfold eqB at h
    rw [wval_nil_cons ta]
    rcases pairQ_spec (ρ := ρ) h with ⟨rfl, hne⟩ | ⟨q', hk, hq⟩
    · exact ⟨fun _ he => hne (wval_inj_cons.1 he).1, by simp⟩
    · obtain ⟨h1, h2⟩ := eqB_val lb q' r hk
      exact ⟨fun hr he => h1 hr (wval_inj_cons.1 he).2, fun hr => ⟨(hq (h2 hr).1).1, wval_inj_cons.2 ⟨(hq (h2 hr).1).2, (h2 hr).2⟩⟩⟩

theorem eqL_val {ta tb : Lit} : ∀ (la lb : List Lit) (q : Option Sp) (r : Bool), eqL ta tb la lb q = .ok r →
    (r = false → wval ρ la ta ≠ wval ρ lb tb) ∧ (r = true → q = none ∧ wval ρ la ta = wval ρ lb tb)
  | [], lb, q, r, h => by
    unfold eqL at h
    exact eqB_val lb q r h
  | a :: la, [], q, r, h => by
    unfold eqL at h
    rw [wval_nil_cons tb]
    rcases pairQ_spec (ρ := ρ) h with ⟨rfl, hne⟩ | ⟨q', hk, hq⟩
    · exact ⟨fun _ he => hne (wval_inj_cons.1 he).1, by simp⟩
    · obtain ⟨h1, h2⟩ := eqL_val la [] q' r hk
      exact ⟨fun hr he => h1 hr (wval_inj_cons.1 he).2, fun hr => ⟨(hq (h2 hr).1).1, wval_inj_cons.2 ⟨(hq (h2 hr).1).2, (h2 hr).2⟩⟩⟩
  | a :: la, b :: lb, q, r, h => by
    unfold eqL at h
    rcases pairQ_spec (ρ := ρ) h with ⟨rfl, hne⟩ | ⟨q', hk, hq⟩
    · exact ⟨fun _ he => hne (wval_inj_cons.1 he).1, by simp⟩
    · obtain ⟨h1, h2⟩ := eqL_val la lb q' r hk
      exact ⟨fun hr he => h1 hr (wval_inj_cons.1 he).2, fun hr => ⟨(hq (h2 hr).1).1, wval_inj_cons.2 ⟨(hq (h2 hr).1).2, (h2 hr).2⟩⟩⟩

theorem dec_of {p : Prop} [Decidable p] {r : Bool} (h0 : r = false → ¬p) (h1 : r = true → p) : r = decide p := by
  cases r
  · exact (decide_eq_false (h0 rfl)).symm
  · exact (decide_eq_true (h1 rfl)).symm

theorem eqWords_ok (S : Sat ρ e) {a b : V} {s u : Sc} {r : Bool} (h : eqWords e a b = .ok r) (ha : Rep ρ a s) (hb : Rep ρ b u) : r = decide (s.asInt = u.asInt) := by
  unfold eqWords at h
  split at h
  · rename_i la ta lb tb h1 h2
    obtain ⟨k0, k1⟩ := eqL_val (ρ := ρ) la lb none r h
    rw [toW_val S h1 ha, toW_val S h2 hb]
    exact dec_of k0 (fun hr => (k1 hr).2)
  · cases h

theorem low64_bit (c : Int) (i : Nat) (h : i < 64) : (low64 c).testBit i = bitI c i := by
  rw [← bitI_nat]
  have e : ((low64 c : Nat) : Int) = c % 2 ^ 64 := by
    unfold low64
    exact Int.toNat_of_nonneg (Int.emod_nonneg _ (by decide))
  rw [e]; exact bitI_emod c 64 i h

theorem low64_lt (c : Int) : low64 c < 2 ^ 64 := by unfold low64; omega

theorem eqRaw_ok (S : Sat ρ e) {x : Nat} {c : Int} {r : Bool} (h : eqRaw e x c = .ok r) : r = decide ((ρ.v x).asInt = c) := by
  have R := S.rs x
  unfold eqRaw at h
  simp only at h
  split at h
  · rename_i hb
    simp only [Bool.or_eq_true, decide_eq_true_eq] at hb
    simp only [Ask.ok.injEq] at h; subst h
    exact dec_of (fun _ he => by have := R.lo; have := R.hi; omega) (by simp)
  · rename_i hb
    simp only [Bool.or_eq_false_iff, decide_eq_false_iff_not] at hb
    split at h
    · rename_i he
      simp only [decide_eq_true_eq] at he
      simp only [Ask.ok.injEq] at h; subst h
      exact dec_of (by simp) (fun _ => by have := R.lo; have := R.hi; omega)
    · split at h
      · rename_i hc
        simp only [Ask.ok.injEq] at h; subst h
        exact dec_of (fun _ he => R.ne c (by simpa using hc) he) (by simp)
      · split at h
        · rename_i hx
          simp only [Ask.ok.injEq] at h; subst h
          refine dec_of (fun _ he => ?_) (by simp)
          have hne : Nat.land (Nat.xor (findR e.rs x).kv (low64 c)) (findR e.rs x).km ≠ 0 := by
            intro h0; rw [h0] at hx; cases hx
          apply hne
          apply Nat.eq_of_testBit_eq
          intro i
          show (((findR e.rs x).kv ^^^ low64 c) &&& (findR e.rs x).km).testBit i = _
          rw [Nat.testBit_and, Nat.testBit_xor, Nat.zero_testBit]
          cases hk : (findR e.rs x).km.testBit i
          · simp
          · have hi : i < 64 := by
              by_cases hi : i < 64
              · exact hi
              · rw [Nat.testBit_lt_two_pow (Nat.lt_of_lt_of_le R.km (Nat.pow_le_pow_right (by omega) (by omega)))] at hk; cases hk
            rw [low64_bit c i hi, ← he, R.bits i hi hk]; simp
        · rename_i hx
          split at h
          · rename_i hall
            simp only [Bool.and_eq_true, decide_eq_true_eq] at hall
            simp only [Ask.ok.injEq] at h; subst h
            refine dec_of (by simp) (fun _ => ?_)
            have hkm := Nat.eq_of_beq_eq_true hall.1
            have hz := Nat.eq_of_beq_eq_true hx
            have r1 : -2 ^ 63 ≤ (ρ.v x).asInt ∧ (ρ.v x).asInt < 2 ^ 63 := ⟨by have := R.low; omega, by have := R.high; omega⟩
            have r2 : -2 ^ 63 ≤ c ∧ c < 2 ^ 63 := ⟨by omega, by omega⟩
            refine eq_of_has (k := .i64) r1 r2 fun i hi => ?_
            have hi : i < 64 := hi
            have hk : (findR e.rs x).km.testBit i = true := by
              rw [hkm]
              have : ones64 = 2 ^ 64 - 1 := by decide
              rw [this, Nat.testBit_two_pow_sub_one]
              exact decide_eq_true hi
            have hb := congrArg (fun n => n.testBit i) hz
            have hb' : (((findR e.rs x).kv ^^^ low64 c) &&& (findR e.rs x).km).testBit i = false := by
              have := hb
              simp only [Nat.zero_testBit] at this
              exact this
            rw [Nat.testBit_and, Nat.testBit_xor, hk, Bool.and_true, low64_bit c i hi] at hb'
            rw [R.bits i hi hk]
            cases h1 : (findR e.rs x).kv.testBit i <;> cases h2 : bitI c i <;> simp_all
          · cases h

theorem eqMsk_ok (S : Sat ρ e) {x m : Nat} {c : Int} {r : Bool} {s : Sc} (h : eqMsk e x m c = .ok r) (hs : Rep ρ (.msk x m) s) : r = decide (s.asInt = c) := by
  have R := S.rs x
  obtain ⟨h1, h2, h3, h4⟩ := hs
  unfold eqMsk at h
  split at h
  · simp only [Ask.ok.injEq] at h; subst h
    exact dec_of (fun _ he => by rw [he] at h1; exact absurd h1 (by omega)) (by simp)
  · rename_i c
    have hcm : Int.ofNat c = (c : Int) := rfl
    split at h
    · rename_i hb
      simp only [Ask.ok.injEq] at h; subst h
      refine dec_of (fun _ he => ?_) (by simp)
      have : Nat.land c m = c := by
        apply Nat.eq_of_testBit_eq
        intro i
        show (c &&& m).testBit i = _
        rw [Nat.testBit_and, ← bitI_nat c i, ← hcm, ← he, h4 i]
        cases m.testBit i <;> simp
      rw [this] at hb
      simp at hb
    · rename_i hb
      have hcm' := Nat.eq_of_beq_eq_true hb
      simp only at h
      split at h
      · rename_i hx
        simp only [Ask.ok.injEq] at h; subst h
        refine dec_of (fun _ he => ?_) (by simp)
        have hne : Nat.land (Nat.land (Nat.xor (findR e.rs x).kv c) (findR e.rs x).km) m ≠ 0 := by
          intro h0; rw [h0] at hx; cases hx
        apply hne
        apply Nat.eq_of_testBit_eq
        intro i
        show ((((findR e.rs x).kv ^^^ c) &&& (findR e.rs x).km) &&& m).testBit i = _
        rw [Nat.testBit_and, Nat.testBit_and, Nat.testBit_xor, Nat.zero_testBit]
        cases hk : (findR e.rs x).km.testBit i
        · simp
        · have hi : i < 64 := by
            by_cases hi : i < 64
            · exact hi
            · rw [Nat.testBit_lt_two_pow (Nat.lt_of_lt_of_le R.km (Nat.pow_le_pow_right (by omega) (by omega)))] at hk; cases hk
          rw [← bitI_nat c i, ← hcm, ← he, h4 i, R.bits i hi hk]
          cases m.testBit i <;> simp
      · rename_i hx
        have hz := Nat.eq_of_beq_eq_true hx
        split at h
        · rename_i hu
          simp only [Ask.ok.injEq] at h; subst h
          refine dec_of (by simp) (fun _ => ?_)
          have hc63 : c < 2 ^ 63 := Nat.lt_of_le_of_lt (by rw [← hcm']; exact Nat.and_le_right) h2
          refine eq_of_bits 63 _ _ h1 h3 (by omega) (by rw [hcm]; exact_mod_cast hc63) ?_
          intro i hi
          rw [h4 i, hcm, bitI_nat]
          have b1 : (c &&& m).testBit i = c.testBit i := by show (Nat.land c m).testBit i = _; rw [hcm']
          have b2 : ((((findR e.rs x).kv ^^^ c) &&& (findR e.rs x).km) &&& m).testBit i = false := by
            show (Nat.land (Nat.land (Nat.xor (findR e.rs x).kv c) (findR e.rs x).km) m).testBit i = _; rw [hz]; simp
          have b3 : (m &&& (ones64 ^^^ (findR e.rs x).km)).testBit i = false := by
            show (Nat.land m (Nat.xor ones64 (findR e.rs x).km)).testBit i = _; rw [hu]; simp
          rw [Nat.testBit_and] at b1
          rw [Nat.testBit_and, Nat.testBit_and, Nat.testBit_xor] at b2
          rw [Nat.testBit_and, Nat.testBit_xor] at b3
          have b4 : ones64.testBit i = true := by
            show (2 ^ 64 - 1).testBit i = true
            rw [Nat.testBit_two_pow_sub_one]; simp; omega
          rw [b4] at b3
          cases hm : m.testBit i
          · rw [hm] at b1; simp at b1; simp [b1]
          · rw [hm] at b2 b3
            simp at b3
            rw [R.bits i (by omega) b3]
            rw [b3] at b2
            simp at b2
            simp [b2]
        · cases h

theorem eqV_ok (S : Sat ρ e) {a b : V} {s u : Sc} {r : Bool} (h : eqV e a b = .ok r) (ha : Rep ρ a s) (hb : Rep ρ b u) : r = decide (s.asInt = u.asInt) := by
  unfold eqV at h
  split at h
  · simp only [Ask.ok.injEq] at h; subst h
    have h1 : s.asInt = _ := ha
    have h2 : u.asInt = _ := hb
    rw [h1, h2]
  · have h1 : s = _ := ha
    have h2 : u.asInt = _ := hb
    rw [h1, h2]; exact eqRaw_ok S h
  · have h1 : s.asInt = _ := ha
    have h2 : u = _ := hb
    rw [h1, h2, eqRaw_ok S h]; exact decide_eq_decide.2 ⟨Eq.symm, Eq.symm⟩
  · have h2 : u.asInt = _ := hb
    split at h
    · rw [h2]; exact eqMsk_ok S h ha
    · exact eqWords_ok S h ha hb
  · have h1 : s.asInt = _ := ha
    split at h
    · rw [h1, eqMsk_ok S h hb]; exact decide_eq_decide.2 ⟨Eq.symm, Eq.symm⟩
    · rw [eqWords_ok S h hb ha]; exact decide_eq_decide.2 ⟨Eq.symm, Eq.symm⟩
  · split at h
    · rename_i hx
      have := Nat.eq_of_beq_eq_true hx
      subst this
      have h1 : s = _ := ha
      have h2 : u = _ := hb
      simp only [Ask.ok.injEq] at h; subst h
      rw [h1, h2]; simp
    · exact eqWords_ok S h ha hb
  · exact eqWords_ok S h ha hb

theorem boundL_low : ∀ (l : List Lit) (b : Bool), boundL false l (.c b) ≤ wval ρ l (.c b)
  | [], b => by cases b <;> simp [boundL, wval, Lit.val]
  | .c a :: l, b => by have := boundL_low l b; rw [wval_cons, bi_c]; simp only [boundL]; cases a <;> simp <;> omega
  | .v x i n :: l, b => by have := boundL_low l b; rw [wval_cons]; have := bi_bound (ρ := ρ) (.v x i n); simp only [boundL]; omega

theorem boundL_high : ∀ (l : List Lit) (b : Bool), wval ρ l (.c b) ≤ boundL true l (.c b)
  | [], b => by cases b <;> simp [boundL, wval, Lit.val]
  | .c a :: l, b => by have := boundL_high l b; rw [wval_cons, bi_c]; simp only [boundL]; cases a <;> simp <;> omega
  | .v x i n :: l, b => by have := boundL_high l b; rw [wval_cons]; have := bi_bound (ρ := ρ) (.v x i n); simp only [boundL]; omega

theorem cnt_parts : ∀ l : List Lit, cntV ρ l = ones l + cntV ρ (opens l)
  | [] => rfl
  | .c true :: l => by simp only [cntV, ones, opens, Lit.val, cnt_parts l]; simp; omega
  | .c false :: l => by simp only [cntV, ones, opens, Lit.val, cnt_parts l]; simp
  | .v x i n :: l => by simp only [cntV, ones, opens, cnt_parts l]; omega

theorem cntV_map (S : Sat ρ e) : ∀ l : List Lit, cntV ρ (l.map (resL e 4)) = cntV ρ l
  | [] => rfl
  | t :: l => by simp only [List.map_cons, cntV, resL_val S, cntV_map S l]

theorem cntV_le : ∀ l : List Lit, cntV ρ l ≤ l.length
  | [] => Nat.le_refl _
  | t :: l => by have := cntV_le l; simp only [cntV, List.length_cons]; split <;> omega

theorem findC_ok (S : Sat ρ e) : ∀ (cs : List (List Lit × Nat × Nat)) (l : List Lit), (∀ l a b, (l, a, b) ∈ cs → a ≤ cntV ρ l ∧ cntV ρ l ≤ b) → (findC e cs l).1 ≤ cntV ρ l ∧ cntV ρ l ≤ (findC e cs l).2
  | [], l, _ => ⟨Nat.zero_le _, cntV_le l⟩
  | (k, a, b) :: r, l, h => by
    unfold findC
    simp only
    split
    · rename_i hk
      obtain ⟨h1, h2⟩ := h k a b (by simp)
      have h3 := cnt_parts (ρ := ρ) (k.map (resL e 4))
      rw [cntV_map S, hk] at h3
      simp only
      omega
    · exact findC_ok S r l (fun l a b hm => h l a b (by simp [hm]))

theorem leV_ok (S : Sat ρ e) {a : V} {c : Int} {s : Sc} {r : Bool} (h : leV e a c = .ok r) (ha : Rep ρ a s) : r = decide (s.asInt ≤ c) := by
  have words : ∀ (l : List Lit) (b : Bool) (n : Int) (q : Ask Bool), n = wval ρ l (.c b) → (match decide (boundL true l (.c b) ≤ c) with
      | true => Ask.ok true
      | false => match decide (c < boundL false l (.c b)) with
        | true => Ask.ok false
        | false => q) = .ok r → r = decide (n ≤ c) ∨ q = .ok r := by
    intro l b n q hn h
    have h1 := boundL_low (ρ := ρ) l b
    have h2 := boundL_high (ρ := ρ) l b
    split at h
    · rename_i hd; simp only [decide_eq_true_eq] at hd
      simp only [Ask.ok.injEq] at h; subst h
      exact .inl (dec_of (by simp) (fun _ => by omega))
    · split at h
      · rename_i hd; simp only [decide_eq_true_eq] at hd
        simp only [Ask.ok.injEq] at h; subst h
        exact .inl (dec_of (fun _ => by omega) (by simp))
      · exact .inr h
  have other : ∀ a : V, Rep ρ a s → (match toW e a with
    | some (l, .c b) =>
      match decide (boundL true l (.c b) ≤ c) with
      | true => Ask.ok true
      | false => match decide (c < boundL false l (.c b)) with
        | true => Ask.ok false
        | false => match topUnknown l none with
          | some t => askL t
          | none => .fail
    | some (_, t) => askL t
    | none => .fail) = .ok r → r = decide (s.asInt ≤ c) := by
    intro a ha h
    split at h
    · rename_i l b hw
      rcases words l b _ _ (toW_val S hw ha) h with h | h
      · exact h
      · split at h
        · exact (askL_ok h).elim
        · cases h
    · exact (askL_ok h).elim
    · cases h
  unfold leV at h
  split at h
  · simp only [Ask.ok.injEq] at h; subst h
    have h1 : s.asInt = _ := ha
    rw [h1]
  · rename_i x
    have h1 : s = _ := ha
    subst h1
    have R := S.rs x
    simp only at h
    split at h
    · rename_i hd; simp only [decide_eq_true_eq] at hd
      simp only [Ask.ok.injEq] at h; subst h
      exact dec_of (by simp) (fun _ => by have := R.hi; omega)
    · split at h
      · rename_i hd; simp only [decide_eq_true_eq] at hd
        simp only [Ask.ok.injEq] at h; subst h
        exact dec_of (fun _ => by have := R.lo; omega) (by simp)
      · split at h
        · cases h
        · split at h
          · rename_i b hb
            have hw : toW e (.raw x) = some (rawBits e x (findR e.rs x).len 0, .c b) := by simp only [toW, hb]
            rcases words _ b _ _ (toW_val S hw rfl) h with h | h
            · exact h
            · cases h
          · cases h
  · rename_i l
    have h1 : s.asInt = _ := ha
    simp only at h
    have hp := cnt_parts (ρ := ρ) (l.map (resL e 4))
    rw [cntV_map S] at hp
    have hf := findC_ok S e.cs (opens (l.map (resL e 4))) S.cs
    split at h
    · rename_i n hn
      simp only [Ask.ok.injEq] at h; subst h
      refine dec_of (fun _ => by rw [h1]; omega) (by simp)
    · rename_i n hn
      have hn' : c - (ones (l.map (resL e 4)) : Int) = (n : Int) := hn
      split at h
      · rename_i hd
        have := Nat.le_of_ble_eq_true hd
        simp only [Ask.ok.injEq] at h; subst h
        exact dec_of (by simp) (fun _ => by rw [h1]; omega)
      · split at h
        · rename_i hd
          simp only [Nat.blt_eq] at hd
          simp only [Ask.ok.injEq] at h; subst h
          exact dec_of (fun _ => by rw [h1]; omega) (by simp)
        · split at h
          · exact (askL_ok h).elim
          · cases h
  · exact other _ ha h

theorem lit?V_ok (S : Sat ρ e) {v : V} {s : Sc} {n : Nat} (h : lit?V e v = .ok n) (hv : Rep ρ v s) : s.asInt = n := by
  unfold lit?V at h
  split at h
  · simp only [Ask.ok.injEq] at h; subst h; exact hv
  · cases h
  · split at h
    · rename_i l t hw
      have h1 := toW_val S hw hv
      have h2 := mkW_rep ρ (l, t) s h1
      split at h
      · rename_i m hm
        simp only [Ask.ok.injEq] at h; subst h
        rw [hm] at h2; exact h2
      · split at h
        · exact (askL_ok h).elim
        · exact (askL_ok h).elim
    · cases h

theorem twoPow?_eq {n : Int} {k : Nat} (h : twoPow? n = some k) : n = 2 ^ k := by
  unfold twoPow? at h
  split at h
  · rename_i n
    split at h
    · rename_i hb
      simp only [Option.some.injEq] at h; subst h
      have := Nat.eq_of_beq_eq_true hb
      show ((n : Nat) : Int) = _
      conv => lhs; rw [← this]
      show ((2 ^ Nat.log2 n : Nat) : Int) = _
      push_cast; rfl
    · cases h
  · cases h

end
end
end Go.Sx

/- The decider's operations are right: all of them. -/
namespace Go.Sx
noncomputable section

section
variable {ρ : Env} {e : Kn}

theorem truthV_ok (S : Sat ρ e) {v : V} {s : Sc} {b : Bool} (h : truthV e v = .ok b) (hv : Rep ρ v s) : s.asBool = b := by
  unfold truthV at h
  split at h
  · simp only [Ask.ok.injEq] at h; subst h; exact hv
  · rename_i x
    split at h
    · rename_i hb
      simp only [Ask.ok.injEq] at h; subst h
      have h1 : s = ρ.v x := hv
      rw [h1]; exact S.bs x _ hb
    · cases h
  · cases h

theorem and_bit (k : IntKind) (x y : Int) (i : Nat) (h : i < k.bits) : bitI (bitsOp k (fun a b => a &&& b) x y) i = (bitI x i && bitI y i) :=
  bitsOp_bit k _ _ (fun _ _ _ _ => BitVec.getLsbD_and) x y i h
theorem or_bit (k : IntKind) (x y : Int) (i : Nat) (h : i < k.bits) : bitI (bitsOp k (fun a b => a ||| b) x y) i = (bitI x i || bitI y i) :=
  bitsOp_bit k _ _ (fun _ _ _ _ => BitVec.getLsbD_or) x y i h
theorem xor_bit (k : IntKind) (x y : Int) (i : Nat) (h : i < k.bits) : bitI (bitsOp k (fun a b => a ^^^ b) x y) i = (bitI x i != bitI y i) :=
  bitsOp_bit k _ _ (fun _ _ _ _ => by rw [BitVec.getLsbD_xor]) x y i h
theorem andNot_bit (k : IntKind) (x y : Int) (i : Nat) (h : i < k.bits) : bitI (bitsOp k (fun a b => a &&& ~~~b) x y) i = (bitI x i && !bitI y i) :=
  bitsOp_bit k _ (fun a b => a && !b) (fun _ _ _ hi => by rw [BitVec.getLsbD_and, BitVec.getLsbD_not]; simp [hi]) x y i h

theorem bitV_ok (S : Sat ρ e) {o : BOp} {k : IntKind} {a b v : V} {s u z : Sc} (h : bitV o k e a b = .ok v) (ha : Rep ρ a s) (hb : Rep ρ b u)
    (hz : kHas k z.asInt) (hbits : ∀ i, i < k.bits → bitI z.asInt i = o.fn (bitI s.asInt i) (bitI u.asInt i)) : Rep ρ v z := by
  unfold bitV at h
  split at h
  · rename_i x y h1 h2
    refine wordOp_rep h hz ?_
    intro i hi
    rw [hbits i hi, toW_val S h1 ha, toW_val S h2 hb]
  · cases h

theorem smallMask_eq {n : Int} {m : Nat} (h : smallMask n = some m) : n = m ∧ m < 2 ^ 63 := by
  unfold smallMask at h
  split at h
  · split at h
    · rename_i hb; simp only [Nat.blt_eq] at hb; simp only [Option.some.injEq] at h; subst h; exact ⟨rfl, hb⟩
    · cases h
  · cases h

theorem testBit_small {m i : Nat} {k : Nat} (hm : m < 2 ^ k) (hi : k ≤ i) : m.testBit i = false :=
  Nat.testBit_lt_two_pow (Nat.lt_of_lt_of_le hm (Nat.pow_le_pow_right (by omega) hi))

/-- What has a small mask is a small number. -/
theorem small_of_bits {z : Int} (hz : kHas .i64 z) (h63 : bitI z 63 = false) : 0 ≤ z ∧ z < 2 ^ 63 := by
  have hz' : -2 ^ 63 ≤ z ∧ z < 2 ^ 63 := hz
  have := bitI_high z 63 63 hz'.1 hz'.2 (Nat.le_refl _)
  rw [h63] at this
  have : ¬ z < 0 := by simpa using this.symm
  exact ⟨by omega, hz'.2⟩

theorem msk_rep {x m : Nat} {z : Sc} (hz : kHas .i64 z.asInt) (hm : m < 2 ^ 63) (h : ∀ i, i < 64 → bitI z.asInt i = (m.testBit i && bitI (ρ.v x).asInt i)) : Rep ρ (.msk x m) z := by
  have h63 : bitI z.asInt 63 = false := by rw [h 63 (by omega), testBit_small hm (Nat.le_refl _)]; rfl
  obtain ⟨h1, h2⟩ := small_of_bits hz h63
  refine ⟨h1, hm, h2, ?_⟩
  intro i
  by_cases hi : i < 64
  · exact h i hi
  · rw [testBit_small hm (by omega), bitI_high z.asInt 63 i (by omega) h2 (by omega)]
    simp; omega

theorem andV_ok (S : Sat ρ e) {k : IntKind} {a b v : V} {s u z : Sc} (h : andV k e a b = .ok v) (ha : Rep ρ a s) (hb : Rep ρ b u)
    (hz : kHas k z.asInt) (hbits : ∀ i, i < k.bits → bitI z.asInt i = (bitI s.asInt i && bitI u.asInt i)) : Rep ρ v z := by
  unfold andV at h
  split at h
  · rename_i x m n
    split at h
    · rename_i n' hn
      obtain ⟨rfl, hlt⟩ := smallMask_eq hn
      simp only [Ask.ok.injEq] at h; subst h
      obtain ⟨_, hm, _, h4⟩ := ha
      have hu : u.asInt = n' := hb
      refine msk_rep hz (Nat.lt_of_le_of_lt Nat.and_le_left hm) ?_
      intro i hi
      show _ = ((m &&& n').testBit i && _)
      rw [hbits i hi, h4 i, hu, bitI_nat, Nat.testBit_and]
      cases m.testBit i <;> cases n'.testBit i <;> simp
    · exact bitV_ok S h ha hb hz hbits
  · rename_i x n
    split at h
    · rename_i n' hn
      obtain ⟨rfl, hlt⟩ := smallMask_eq hn
      simp only [Ask.ok.injEq] at h; subst h
      have hs : s = ρ.v x := ha
      have hu : u.asInt = n' := hb
      refine msk_rep hz hlt ?_
      intro i hi
      rw [hbits i hi, hs, hu, bitI_nat, Bool.and_comm]
    · exact bitV_ok S h ha hb hz hbits
  · exact bitV_ok S h ha hb hz hbits

theorem shlV_ok (S : Sat ρ e) {k : IntKind} {a v : V} {s z : Sc} {n : Nat} (h : shlV e k a n = .ok v) (ha : Rep ρ a s) (hz : n < k.bits → z.asInt = k.wrap (s.asInt * 2 ^ n)) : Rep ρ v z := by
  unfold shlV at h
  split at h
  · rename_i l t hw
    split at h
    · cases h
    · rename_i hb
      have hlt : n < k.bits := by
        cases Nat.lt_or_ge n k.bits with
        | inl h => exact h
        | inr h' => rw [Nat.ble_eq_true_of_le h'] at hb; cases hb
      simp only [Ask.ok.injEq] at h; subst h
      refine mkW_rep ρ _ _ ?_
      rw [wrapW_val, hz hlt, toW_val S hw ha, zerosL_val]
  · cases h

theorem shrV_ok (S : Sat ρ e) {k : IntKind} {a v : V} {s z : Sc} {n : Nat} (h : shrV e k a n = .ok v) (ha : Rep ρ a s) (hz : n < k.bits → z.asInt = s.asInt / 2 ^ n) : Rep ρ v z := by
  unfold shrV at h
  split at h
  · cases h
  · rename_i hb
    have hlt : n < k.bits := by
      cases Nat.lt_or_ge n k.bits with
      | inl h => exact h
      | inr h' => rw [Nat.ble_eq_true_of_le h'] at hb; cases hb
    split at h
    · rename_i l t hw
      simp only [Ask.ok.injEq] at h; subst h
      refine mkW_rep ρ _ _ ?_
      rw [hz hlt, toW_val S hw ha, drop_val]
    · cases h

theorem notA_ok {a : Ask Bool} {r : Bool} (h : notA a = .ok r) : a = .ok (!r) := by
  obtain ⟨b, h1, h2⟩ := Ask.bind_ok h
  simp only [Ask.ok.injEq] at h2; subst h2; simp [h1]

theorem isNum_eq {v : V} {n : Int} (h : isNum v = some n) : v = .num n := by
  cases v <;> simp [isNum] at h; subst h; rfl

theorem getD_map_neg (t : Lit) (l : List Lit) (i : Nat) : (l.map Lit.neg).getD i t.neg = (l.getD i t).neg := by
  simp only [List.getD, List.getElem?_map]
  cases l[i]? <;> rfl

theorem neg_bit (t : Lit) (l : List Lit) (i : Nat) : bitI (wval ρ (l.map Lit.neg) t.neg) i = !bitI (wval ρ l t) i := by
  rw [wval_bit, wval_bit, getD_map_neg, Lit.neg_val]

theorem rem_neg_two {x : Int} (h : x < 0) : x.tmod 2 = -(x % 2) := by
  have e : x.tmod 2 = -((-x).tmod 2) := by rw [Int.neg_tmod]; omega
  rw [e, Int.tmod_eq_emod_of_nonneg (by omega)]
  omega

theorem quo_has {k : IntKind} {l : List Lit} (n : Nat) (h : fitW k (l, .c false) = true) : kHas k (wval ρ (l.drop n) (.c false)) := by
  rcases fitW_parts h with ⟨hs, h⟩ | ⟨hs, h, _⟩
  · exact has_signed hs (by simp at h ⊢; omega)
  · exact has_unsigned hs (by simp at h ⊢; omega) rfl

set_option maxHeartbeats 1000000 in
theorem o2_ok (S : Sat ρ e) {o : Op2} {a b v : V} {s u : Sc} (h : o2 o a b e = .ok v) (ha : Rep ρ a s) (hb : Rep ρ b u) : Rep ρ v (o.ev s u) := by
  unfold o2 at h
  split at h
  -- add
  · rename_i k
    split at h
    · simp only [Ask.ok.injEq] at h; subst h
      have h1 : s.asInt = _ := ha
      have h2 : u.asInt = _ := hb
      show (Sc.int _).asInt = _
      rw [h1, h2]; rfl
    · split at h
      · rename_i la ta lb tb w1 w2
        obtain ⟨w, h1, h2⟩ := Ask.bind_ok h
        simp only [Ask.ok.injEq] at h2; subst h2
        refine mkW_rep ρ _ _ ?_
        rw [wrapW_val, addL_val _ _ _ _ h1, ← toW_val S w1 ha, ← toW_val S w2 hb, bi_c]
        show k.wrap (s.asInt + u.asInt) = _
        simp
      · cases h
  -- sub
  · rename_i k
    split at h
    · simp only [Ask.ok.injEq] at h; subst h
      have h1 : s.asInt = _ := ha
      have h2 : u.asInt = _ := hb
      show (Sc.int _).asInt = _
      rw [h1, h2]; rfl
    · split at h
      · rename_i la ta lb tb w1 w2
        obtain ⟨w, h1, h2⟩ := Ask.bind_ok h
        simp only [Ask.ok.injEq] at h2; subst h2
        refine mkW_rep ρ _ _ ?_
        rw [wrapW_val, addL_val _ _ _ _ h1, wval_map_neg, ← toW_val S w1 ha, ← toW_val S w2 hb, bi_c]
        show k.wrap (s.asInt - u.asInt) = _
        congr 1; simp; omega
      · cases h
  -- mul
  · rename_i k
    split at h
    · simp only [Ask.ok.injEq] at h; subst h
      have h1 : s.asInt = _ := ha
      have h2 : u.asInt = _ := hb
      show (Sc.int _).asInt = _
      rw [h1, h2]; rfl
    · rename_i y _
      have h2 : u.asInt = y := hb
      split at h
      · rename_i n hn
        refine shlV_ok S h ha (fun _ => ?_)
        show k.wrap (s.asInt * u.asInt) = _
        rw [h2, twoPow?_eq hn]
      · cases h
    · rename_i y _
      have h2 : s.asInt = y := ha
      split at h
      · rename_i n hn
        refine shlV_ok S h hb (fun _ => ?_)
        show k.wrap (s.asInt * u.asInt) = _
        rw [h2, twoPow?_eq hn, Int.mul_comm]
      · cases h
    · cases h
  -- quo
  · rename_i k
    split at h
    · simp only [Ask.ok.injEq] at h; subst h
      have h1 : s.asInt = _ := ha
      have h2 : u.asInt = _ := hb
      show (Sc.int _).asInt = _
      rw [h1, h2]; rfl
    · rename_i y _
      have h2 : u.asInt = y := hb
      split at h
      · rename_i n l t hn hw
        have h1 := toW_val S hw ha
        split at h
        · split at h
          · rename_i hf
            simp only [Ask.ok.injEq] at h; subst h
            refine mkW_rep ρ _ _ ?_
            show k.wrap (s.asInt.tdiv u.asInt) = _
            have hnn : 0 ≤ s.asInt := by rw [h1]; exact wval_nonneg ρ rfl l
            rw [h2, twoPow?_eq hn, Int.tdiv_eq_ediv_of_nonneg hnn, h1, ← drop_val]
            exact wrap_of_has (quo_has n hf)
          · cases h
        · cases h
        · exact (askL_ok h).elim
      · cases h
    · cases h
  -- rem
  · split at h
    · simp only [Ask.ok.injEq] at h; subst h
      have h1 : s.asInt = _ := ha
      have h2 : u.asInt = _ := hb
      show (Sc.int _).asInt = _
      rw [h1, h2]; rfl
    · rename_i y _
      have h2 : u.asInt = y := hb
      split at h
      · rename_i n l t hn hw
        have h1 := toW_val S hw ha
        split at h
        · simp only [Ask.ok.injEq] at h; subst h
          refine mkW_rep ρ _ _ ?_
          show s.asInt.tmod u.asInt = _
          have hnn : 0 ≤ s.asInt := by rw [h1]; exact wval_nonneg ρ rfl l
          rw [h2, twoPow?_eq hn, Int.tmod_eq_emod_of_nonneg hnn, h1]
          rcases take_val (ρ := ρ) n l (.c false) with h3 | ⟨h3, h4⟩
          · exact h3.symm
          · rw [h4]
            have hr := wval_range ρ (.c false) l
            have hp : (2 : Int) ^ l.length ≤ 2 ^ n := pow_mono_int (by omega)
            exact Int.emod_eq_of_lt (wval_nonneg ρ rfl l) (by omega)
        · split at h
          · rename_i b l' 
            simp only [Ask.ok.injEq] at h; subst h
            refine mkW_rep ρ _ _ ?_
            show s.asInt.tmod u.asInt = _
            have hlt : s.asInt < 0 := by rw [h1]; exact wval_neg ρ rfl _
            show _ = wval ρ [b] b
            rw [h2, twoPow?_eq hn, show (2 : Int) ^ 1 = 2 from rfl, rem_neg_two hlt, h1, wval_cons, wval_cons, wval_nil]
            have := bi_bound (ρ := ρ) b
            omega
          · cases h
        · exact (askL_ok h).elim
      · cases h
    · cases h
  -- and
  · rename_i k
    exact andV_ok S h ha hb (bitsOp_has _ _ _ _) (fun i hi => and_bit k _ _ i hi)
  · rename_i k
    exact bitV_ok S h ha hb (bitsOp_has _ _ _ _) (fun i hi => or_bit k _ _ i hi)
  · rename_i k
    exact bitV_ok S h ha hb (bitsOp_has _ _ _ _) (fun i hi => xor_bit k _ _ i hi)
  -- andNot
  · rename_i k
    split at h
    · rename_i x y w1 w2
      have h1 := toW_val S w1 ha
      have h2 := toW_val S w2 hb
      have hz : (Op2.ev (.andNot k) s u).asInt = bitsOp k (fun a b => a &&& ~~~b) s.asInt u.asInt := rfl
      have hh : kHas k (Op2.ev (.andNot k) s u).asInt := by rw [hz]; exact bitsOp_has _ _ _ _
      have hbit : ∀ i, i < k.bits → bitI (Op2.ev (.andNot k) s u).asInt i = (bitI (wval ρ x.1 x.2) i && !bitI (wval ρ y.1 y.2) i) := by
        intro i hi; rw [hz, andNot_bit k _ _ i hi, h1, h2]
      split at h
      · refine wordOp_rep h hh ?_
        intro i hi
        rw [neg_bit, hbit i hi]; rfl
      · split at h
        · refine wordOp_rep h hh ?_
          intro i hi
          rw [hbit i hi]
          show (_ && _) = (_ && _)
          congr 1
          rw [wval_bit, wval_bit]
          have : ((extL y.2 k.bits y.1).map Lit.neg)[i]? = some (y.1.getD i y.2).neg := by
            rw [List.getElem?_map, extL_get _ _ _ _ hi]; rfl
          rw [getD_get this, Lit.neg_val]
        · cases h
    · cases h
  -- shl
  · rename_i k
    obtain ⟨n, h1, h2⟩ := Ask.bind_ok h
    have hn := lit?V_ok S h1 hb
    refine shlV_ok S h2 ha (fun hlt => ?_)
    show shlOp k s.asInt u.asInt = _
    unfold shlOp
    rw [hn]
    simp only [Int.toNat_natCast]
    rw [Nat.min_eq_left (Nat.le_of_lt hlt)]
  -- shr
  · rename_i k
    obtain ⟨n, h1, h2⟩ := Ask.bind_ok h
    have hn := lit?V_ok S h1 hb
    refine shrV_ok S h2 ha (fun hlt => ?_)
    show shrOp k s.asInt u.asInt = _
    unfold shrOp
    rw [hn]
    simp only [Int.toNat_natCast]
    rw [Nat.min_eq_left (Nat.le_of_lt hlt), Int.fdiv_eq_ediv_of_nonneg _ (Int.le_of_lt (Int.pow_pos (by omega)))]
  -- eq
  · obtain ⟨r, h1, h2⟩ := Ask.bind_ok h
    simp only [Ask.ok.injEq] at h2; subst h2
    show (s.asInt == u.asInt) = r
    rw [eqV_ok S h1 ha hb]; rfl
  -- le
  · obtain ⟨r, h1, h2⟩ := Ask.bind_ok h
    simp only [Ask.ok.injEq] at h2; subst h2
    show decide (s.asInt ≤ u.asInt) = r
    split at h1
    · rename_i x y hx hy
      rw [isNum_eq hx] at ha; rw [isNum_eq hy] at hb
      have e1 : s.asInt = x := ha
      have e2 : u.asInt = y := hb
      simp only [Ask.ok.injEq] at h1; rw [e1, e2, h1]
    · rename_i y hx hy
      rw [isNum_eq hy] at hb
      have e2 : u.asInt = y := hb
      rw [e2, leV_ok S h1 ha]
    · rename_i x hx hy
      rw [isNum_eq hx] at ha
      have e1 : s.asInt = x := ha
      have := leV_ok S (notA_ok h1) hb
      rw [e1, show r = !!r by simp, this, ← decide_not]
      exact decide_eq_decide.2 (by omega)
    · cases h1
  -- lt
  · obtain ⟨r, h1, h2⟩ := Ask.bind_ok h
    simp only [Ask.ok.injEq] at h2; subst h2
    show decide (s.asInt < u.asInt) = r
    split at h1
    · rename_i x y hx hy
      rw [isNum_eq hx] at ha; rw [isNum_eq hy] at hb
      have e1 : s.asInt = x := ha
      have e2 : u.asInt = y := hb
      simp only [Ask.ok.injEq] at h1; rw [e1, e2, h1]
    · rename_i y hx hy
      rw [isNum_eq hy] at hb
      have e2 : u.asInt = y := hb
      rw [e2, leV_ok S h1 ha]
      exact decide_eq_decide.2 (by omega)
    · rename_i x hx hy
      rw [isNum_eq hx] at ha
      have e1 : s.asInt = x := ha
      have := leV_ok S (notA_ok h1) hb
      rw [e1, show r = !!r by simp, this, ← decide_not]
      exact decide_eq_decide.2 (by omega)
    · cases h1
  -- beq
  · obtain ⟨x, h1, h2⟩ := Ask.bind_ok h
    obtain ⟨y, h3, h4⟩ := Ask.bind_ok h2
    simp only [Ask.ok.injEq] at h4; subst h4
    show (s.asBool == u.asBool) = _
    rw [truthV_ok S h1 ha, truthV_ok S h3 hb]
  · cases h

theorem o1_ok (S : Sat ρ e) (hk : ∀ x ∈ e.ik, ∃ n, ρ.v x = .int n) {o : Op1} {a v : V} {s : Sc} (h : o1 o a e = .ok v) (ha : Rep ρ a s) : Rep ρ v (o.ev s) := by
  unfold o1 at h
  split at h
  · rename_i k
    split at h
    · simp only [Ask.ok.injEq] at h; subst h
      have h1 : s.asInt = _ := ha
      show (Sc.int _).asInt = _
      rw [h1]; rfl
    · rename_i x
      have hs : s = ρ.v x := ha
      simp only at h
      split at h
      · rename_i hc
        simp only [Bool.and_eq_true, decide_eq_true_eq, Nat.blt_eq] at hc
        obtain ⟨⟨c1, c2⟩, c3⟩ := hc
        simp only [Ask.ok.injEq] at h; subst h
        obtain ⟨n, hn⟩ := hk x (by simpa using c3)
        have R := S.rs x
        show Sc.int (k.wrap s.asInt) = ρ.v x
        rw [hs, hn]
        congr 1
        simp only [Sc.asInt_int]
        rw [hn] at R
        simp only [Sc.asInt_int] at R
        have h1 := R.lo
        have h2 := R.hi
        have h3 := (intLen_range (findR e.rs x).hi).2
        have h4 : (2 : Int) ^ intLen (findR e.rs x).hi ≤ 2 ^ (k.bits - 1) := pow_mono_int (by omega)
        have h5 := two_bits k
        refine wrap_of_has ?_
        unfold kHas
        split <;> omega
      · split at h
        · rename_i w hw
          simp only [Ask.ok.injEq] at h; subst h
          refine mkW_rep ρ _ _ ?_
          rw [wrapW_val, ← toW_val S hw ha]; rfl
        · cases h
    · split at h
      · rename_i w hw
        simp only [Ask.ok.injEq] at h; subst h
        refine mkW_rep ρ _ _ ?_
        rw [wrapW_val, ← toW_val S hw ha]; rfl
      · cases h
  · obtain ⟨b, h1, h2⟩ := Ask.bind_ok h
    simp only [Ask.ok.injEq] at h2; subst h2
    show (!s.asBool) = _
    rw [truthV_ok S h1 ha]
  · cases h

end
end
end Go.Sx

/- The decider is right. -/
namespace Go.Sx
noncomputable section

section
variable {ρ : Env} {e : Kn}

def Sp.holds (ρ : Env) : Sp → Bool
  | .lit x i => bitI (ρ.v x).asInt i
  | .eqn x i t => bitI (ρ.v x).asInt i == t.val ρ
  | .le x c => decide ((ρ.v x).asInt ≤ c)
  | .pt x c => decide ((ρ.v x).asInt = c)
  | .bl x => (ρ.v x).asBool
  | .cnt l c => decide (cntV ρ l ≤ c)

theorem findR_setR (r : Rng) (x : Nat) : ∀ (l : List (Nat × Rng)) (y : Nat), findR (setR l x r) y = if y = x then r else findR l y
  | [], y => by
    simp only [setR, findR]
    by_cases h : y = x
    · subst h; simp
    · rw [if_neg h]
      have : Nat.beq y x = false := by
        cases hb : Nat.beq y x
        · rfl
        · exact absurd (Nat.eq_of_beq_eq_true hb) h
      rw [this]
  | (z, q) :: l, y => by
    unfold setR
    cases hb : Nat.beq x z
    · simp only [findR]
      cases hc : Nat.beq y z
      · simp only; exact findR_setR r x l y
      · have h1 := Nat.eq_of_beq_eq_true hc
        subst h1
        simp only
        rw [if_neg]
        intro h; subst h; simp at hb
    · have h1 := Nat.eq_of_beq_eq_true hb
      subst h1
      simp only [findR]
      by_cases h : y = x
      · subst h; simp
      · have : Nat.beq y x = false := by
          cases hb : Nat.beq y x
          · rfl
          · exact absurd (Nat.eq_of_beq_eq_true hb) h
        rw [this, if_neg h]

theorem Sat.setR (S : Sat ρ e) {x : Nat} {r : Rng} (h : r.Ok (ρ.v x).asInt) : Sat ρ { e with rs := setR e.rs x r } := by
  refine ⟨?_, S.bs, S.ls, S.cs⟩
  intro y
  simp only [findR_setR]
  split
  · rename_i he; subst he; exact h
  · exact S.rs y

theorem pow_testBit (i j : Nat) : (Nat.pow 2 i).testBit j = decide (i = j) := by
  show (2 ^ i).testBit j = _
  exact Nat.testBit_two_pow

theorem setBit_ok {r : Rng} {n : Int} (R : r.Ok n) (i : Nat) : (setBit r i (bitI n i)).Ok n := by
  unfold setBit
  split
  · exact R
  · rename_i hi
    simp only [Nat.blt_eq] at hi
    have R' : ∀ b, b = bitI n i → ({ r with km := Nat.lor r.km (Nat.pow 2 i), kv := match b with | true => Nat.lor r.kv (Nat.pow 2 i) | false => r.kv } : Rng).Ok n := by
      intro b hb
      refine ⟨R.lo, R.hi, R.ne, ?_, ?_, ?_, R.low, R.high⟩
      · intro j hj hk
        have hk' : (r.km ||| 2 ^ i).testBit j = true := hk
        rw [Nat.testBit_or, Nat.testBit_two_pow] at hk'
        by_cases hij : i = j
        · subst hij
          cases b
          · rw [← hb]
            show false = r.kv.testBit i
            cases hv : r.kv.testBit i
            · rfl
            · obtain ⟨_, hm⟩ := R.sub i hv
              have := R.bits i hj hm
              rw [← hb, hv] at this; cases this
          · rw [← hb]
            show true = (r.kv ||| 2 ^ i).testBit i
            rw [Nat.testBit_or, Nat.testBit_two_pow]; simp
        · simp only [hij, decide_false, Bool.or_false] at hk'
          rw [R.bits j hj hk']
          cases b
          · rfl
          · show _ = (r.kv ||| 2 ^ i).testBit j
            rw [Nat.testBit_or, Nat.testBit_two_pow]; simp [hij]
      · intro j hj
        show j < 64 ∧ (r.km ||| 2 ^ i).testBit j = true
        rw [Nat.testBit_or, Nat.testBit_two_pow]
        cases b
        · have hj' : r.kv.testBit j = true := hj
          obtain ⟨h1, h2⟩ := R.sub j hj'
          exact ⟨h1, by simp [h2]⟩
        · have hj' : (r.kv ||| 2 ^ i).testBit j = true := hj
          rw [Nat.testBit_or, Nat.testBit_two_pow] at hj'
          by_cases hij : i = j
          · subst hij; exact ⟨hi, by simp⟩
          · simp only [hij, decide_false, Bool.or_false] at hj'
            obtain ⟨h1, h2⟩ := R.sub j hj'
            exact ⟨h1, by simp [h2]⟩
      · show r.km ||| 2 ^ i < 2 ^ 64
        exact Nat.or_lt_two_pow R.km (Nat.pow_lt_pow_right (by omega) hi)
    have Q := R' (bitI n i) rfl
    simp only
    split
    · rename_i h63
      have := Nat.eq_of_beq_eq_true h63
      subst this
      have hs := R.sign
      cases hb : bitI n 63
      · rw [hb] at Q hs
        have hn : 0 ≤ n := by simpa using hs.symm
        exact ⟨by have := R.lo; show max r.lo 0 ≤ n; omega, Q.hi, Q.ne, Q.bits, Q.sub, Q.km, Q.low, Q.high⟩
      · rw [hb] at Q hs
        have hn : n < 0 := by simpa using hs.symm
        exact ⟨Q.lo, by have := R.hi; show n ≤ min r.hi (-1); omega, Q.ne, Q.bits, Q.sub, Q.km, Q.low, Q.high⟩
    · exact Q

theorem tell_ok (S : Sat ρ e) (s : Sp) : Sat ρ (e.tell s (s.holds ρ)) := by
  cases s with
  | lit x i => exact S.setR (setBit_ok (S.rs x) i)
  | eqn x i t =>
    simp only [Sp.holds]
    cases hb : bitI (ρ.v x).asInt i == t.val ρ
    · refine ⟨S.rs, S.bs, ?_, S.cs⟩
      intro y j u hm
      simp only [Kn.tell, List.mem_cons, Prod.mk.injEq] at hm
      rcases hm with ⟨rfl, rfl, rfl⟩ | hm
      · rw [Lit.neg_val]; revert hb; cases bitI (ρ.v y).asInt j <;> cases t.val ρ <;> simp
      · exact S.ls y j u hm
    · refine ⟨S.rs, S.bs, ?_, S.cs⟩
      intro y j u hm
      simp only [Kn.tell, List.mem_cons, Prod.mk.injEq] at hm
      rcases hm with ⟨rfl, rfl, rfl⟩ | hm
      · simpa using hb
      · exact S.ls y j u hm
  | le x c =>
    have R := S.rs x
    simp only [Sp.holds]
    by_cases h : (ρ.v x).asInt ≤ c
    · rw [decide_eq_true h]
      exact S.setR ⟨R.lo, by have := R.hi; show _ ≤ min (findR e.rs x).hi c; omega, R.ne, R.bits, R.sub, R.km, R.low, R.high⟩
    · rw [decide_eq_false h]
      exact S.setR ⟨by have := R.lo; show max (findR e.rs x).lo (c + 1) ≤ _; omega, R.hi, R.ne, R.bits, R.sub, R.km, R.low, R.high⟩
  | pt x c =>
    have R := S.rs x
    simp only [Sp.holds]
    by_cases h : (ρ.v x).asInt = c
    · rw [decide_eq_true h]
      refine S.setR ⟨by show c ≤ _; omega, by show _ ≤ c; omega, R.ne, ?_, ?_, (by show ones64 < 2 ^ 64; decide), R.low, R.high⟩
      · intro i hi _
        show _ = (low64 c).testBit i
        rw [low64_bit c i hi, h]
      · intro i hi
        have hi' : (low64 c).testBit i = true := hi
        have h64 : i < 64 := by
          cases Nat.lt_or_ge i 64 with
          | inl h => exact h
          | inr h => rw [testBit_small (low64_lt c) h] at hi'; cases hi'
        refine ⟨h64, ?_⟩
        show (2 ^ 64 - 1).testBit i = true
        rw [Nat.testBit_two_pow_sub_one]; simpa using h64
    · rw [decide_eq_false h]
      refine S.setR ?_
      simp only
      split
      · rename_i hd; simp only [decide_eq_true_eq] at hd
        exact ⟨by have := R.lo; show c + 1 ≤ _; omega, R.hi, R.ne, R.bits, R.sub, R.km, R.low, R.high⟩
      · split
        · rename_i hd; simp only [decide_eq_true_eq] at hd
          exact ⟨R.lo, by have := R.hi; show _ ≤ c - 1; omega, R.ne, R.bits, R.sub, R.km, R.low, R.high⟩
        · refine ⟨R.lo, R.hi, ?_, R.bits, R.sub, R.km, R.low, R.high⟩
          intro d hd
          have hd' : d ∈ c :: (findR e.rs x).ne := hd
          rcases List.mem_cons.1 hd' with rfl | hd'
          · exact h
          · exact R.ne d hd'
  | bl x =>
    refine ⟨S.rs, ?_, S.ls, S.cs⟩
    intro y b hb
    simp only [Kn.tell, List.lookup_cons] at hb
    split at hb
    · rename_i he
      have : y = x := by simpa using he
      subst this
      simpa [Sp.holds] using hb
    · exact S.bs y b hb
  | cnt l c =>
    have hf := findC_ok S e.cs l S.cs
    simp only [Sp.holds]
    by_cases h : cntV ρ l ≤ c
    · rw [decide_eq_true h]
      refine ⟨S.rs, S.bs, S.ls, ?_⟩
      intro k a b hm
      simp only [Kn.tell, List.mem_cons, Prod.mk.injEq] at hm
      rcases hm with ⟨rfl, rfl, rfl⟩ | hm
      · omega
      · exact S.cs k a b hm
    · rw [decide_eq_false h]
      refine ⟨S.rs, S.bs, S.ls, ?_⟩
      intro k a b hm
      simp only [Kn.tell, List.mem_cons, Prod.mk.injEq] at hm
      rcases hm with ⟨rfl, rfl, rfl⟩ | hm
      · omega
      · exact S.cs k a b hm

theorem tell_ik (s : Sp) (b : Bool) : (e.tell s b).ik = e.ik := by
  cases s <;> cases b <;> rfl

/-- A range's bits beside its number, as a number of 64 bits. -/
theorem Rng.Ok.between {r : Rng} {n : Int} (R : r.Ok n) : r.kv ≤ low64 n ∧ low64 n ≤ Nat.lor r.kv (Nat.xor ones64 r.km) := by
  have hb : ∀ i, r.kv.testBit i = true → (low64 n).testBit i = true := by
    intro i hi
    obtain ⟨h1, h2⟩ := R.sub i hi
    rw [low64_bit n i h1, R.bits i h1 h2, hi]
  constructor
  · have : r.kv &&& low64 n = r.kv := by
      apply Nat.eq_of_testBit_eq
      intro i
      rw [Nat.testBit_and]
      cases h : r.kv.testBit i
      · simp
      · simp [hb i h]
    rw [← this]; exact Nat.and_le_right
  · show low64 n ≤ r.kv ||| (ones64 ^^^ r.km)
    have : low64 n &&& (r.kv ||| (ones64 ^^^ r.km)) = low64 n := by
      apply Nat.eq_of_testBit_eq
      intro i
      rw [Nat.testBit_and, Nat.testBit_or, Nat.testBit_xor]
      cases h : (low64 n).testBit i
      · simp
      · have h64 : i < 64 := by
          cases Nat.lt_or_ge i 64 with
          | inl h => exact h
          | inr h' => rw [testBit_small (low64_lt n) h'] at h; cases h
        have b4 : ones64.testBit i = true := by
          show (2 ^ 64 - 1).testBit i = true
          rw [Nat.testBit_two_pow_sub_one]; simpa using h64
        rw [b4]
        cases hk : r.km.testBit i
        · simp
        · have := R.bits i h64 hk
          rw [low64_bit n i h64] at h
          rw [h] at this
          simp [← this]
    rw [← this]; exact Nat.and_le_right

theorem Rng.Ok.not_bad {r : Rng} {n : Int} (R : r.Ok n) : r.bad = false := by
  obtain ⟨h1, h2⟩ := R.between
  have hlo := R.lo
  have hhi := R.hi
  have hlow := R.low
  have hhigh := R.high
  unfold Rng.bad
  split
  · rename_i l h hl hh
    rw [hl] at hlo
    rw [hh] at hhi
    have e : low64 n = n.toNat := by
      unfold low64; rw [Int.emod_eq_of_lt (by have : (0 : Int) ≤ Int.ofNat l := by simp
                                              omega) (by omega)]
    have a1 : (l : Int) ≤ n := hlo
    have a2 : n ≤ (h : Int) := hhi
    simp only [Bool.or_eq_false_iff]
    refine ⟨⟨?_, ?_⟩, ?_⟩
    · cases hb : Nat.blt h r.kv
      · rfl
      · simp only [Nat.blt_eq] at hb; omega
    · cases hb : Nat.blt (Nat.lor r.kv (Nat.xor ones64 r.km)) l
      · rfl
      · simp only [Nat.blt_eq] at hb; omega
    · cases hb : Nat.blt h l
      · rfl
      · simp only [Nat.blt_eq] at hb; omega
  · rename_i l h hl hh
    rw [hl] at hlo
    rw [hh] at hhi
    have a1 : -((l : Int) + 1) ≤ n := by rw [Int.negSucc_eq] at hlo; exact hlo
    have a2 : n ≤ -((h : Int) + 1) := by rw [Int.negSucc_eq] at hhi; exact hhi
    have e : (low64 n : Int) = n + 18446744073709551616 := by
      unfold low64
      rw [Int.toNat_of_nonneg (Int.emod_nonneg _ (by decide)), ← Int.add_mul_emod_self_left n 18446744073709551616 1, Int.emod_eq_of_lt (by omega) (by omega)]
      omega
    have o : ones64 = 18446744073709551615 := rfl
    simp only [Bool.or_eq_false_iff]
    refine ⟨⟨?_, ?_⟩, ?_⟩
    · cases hb : Nat.blt (Nat.sub ones64 h) r.kv
      · rfl
      · simp only [Nat.blt_eq] at hb
        have hb' : ones64 - h < r.kv := hb
        omega
    · cases hb : Nat.blt (Nat.lor r.kv (Nat.xor ones64 r.km)) (Nat.sub ones64 l)
      · rfl
      · simp only [Nat.blt_eq] at hb
        have hb' : Nat.lor r.kv (Nat.xor ones64 r.km) < ones64 - l := hb
        omega
    · cases hb : Nat.blt l h
      · rfl
      · simp only [Nat.blt_eq] at hb; omega
  · rfl

theorem badL_ok (S : Sat ρ e) : ∀ (l : List (Nat × Nat × Lit)), (∀ x i t, (x, i, t) ∈ l → bitI (ρ.v x).asInt i = t.val ρ) → badL e l = false
  | [], _ => rfl
  | (x, i, t) :: l, h => by
    unfold badL
    rw [badL_ok S l (fun x i t hm => h x i t (by simp [hm])), Bool.or_false]
    have h1 := h x i t (by simp)
    have R := S.rs x
    simp only
    split
    · rename_i b hk ht
      have h2 := resL_val S 4 t
      rw [ht] at h2
      rw [← R.known hk, h1, ← h2]
      simp [Lit.val]
    · rfl

theorem bad_ok (S : Sat ρ e) (s : Sp) : e.bad s = false := by
  unfold Kn.bad
  simp only [Bool.or_eq_false_iff]
  constructor
  · split
    · exact (S.rs _).not_bad
    · rfl
  · split
    · rfl
    · exact badL_ok S _ S.ls

theorem highs_bit (k i : Nat) : (highs k).testBit i = (decide (k ≤ i) && decide (i < 64)) := by
  show ((ones64 >>> k) <<< k).testBit i = _
  rw [Nat.testBit_shiftLeft, Nat.testBit_shiftRight]
  show (decide (i ≥ k) && (2 ^ 64 - 1).testBit (k + (i - k))) = _
  rw [Nat.testBit_two_pow_sub_one]
  by_cases h : k ≤ i
  · simp [h, show k + (i - k) = i by omega]
  · simp [h]

theorem highs_lt (k : Nat) : highs k < 2 ^ 64 := by
  apply Nat.lt_pow_two_of_testBit
  intro i hi
  rw [highs_bit]; simp; omega

theorem Rng.Ok.tight {r : Rng} {n : Int} (R : r.Ok n) : r.tight.Ok n := by
  have hlo := R.lo
  have hhi := R.hi
  unfold Rng.tight
  split
  · rename_i l h hl hh
    rw [hl] at hlo
    rw [hh] at hhi
    have a1 : (l : Int) ≤ n := hlo
    have a2 : n ≤ (h : Int) := hhi
    have hn : n < 2 ^ natLen h := by
      have := natLen_lt h
      have : ((h : Nat) : Int) < 2 ^ natLen h := by exact_mod_cast this
      omega
    have hz : ∀ i, natLen h ≤ i → bitI n i = false := by
      intro i hi
      rw [bitI_high n (natLen h) i (by have : (0 : Int) < 2 ^ natLen h := Int.pow_pos (by omega)
                                       omega) hn hi]
      simp; omega
    refine ⟨R.lo, R.hi, R.ne, ?_, ?_, ?_, R.low, R.high⟩
    · intro i hi hk
      have hk' : (r.km ||| highs (natLen h)).testBit i = true := hk
      rw [Nat.testBit_or, highs_bit] at hk'
      cases hm : r.km.testBit i
      · rw [hm] at hk'
        simp at hk'
        rw [hz i hk'.1]
        show false = r.kv.testBit i
        cases hv : r.kv.testBit i
        · rfl
        · obtain ⟨_, h2⟩ := R.sub i hv; rw [hm] at h2; cases h2
      · exact R.bits i hi hm
    · intro i hi
      obtain ⟨h1, h2⟩ := R.sub i hi
      refine ⟨h1, ?_⟩
      show (r.km ||| highs (natLen h)).testBit i = true
      rw [Nat.testBit_or, h2]; rfl
    · exact Nat.or_lt_two_pow R.km (highs_lt _)
  · rename_i l h hl hh
    rw [hl] at hlo
    rw [hh] at hhi
    have a1 : -((l : Int) + 1) ≤ n := by rw [Int.negSucc_eq] at hlo; exact hlo
    have a2 : n ≤ -((h : Int) + 1) := by rw [Int.negSucc_eq] at hhi; exact hhi
    have hn : -2 ^ natLen l ≤ n := by
      have := natLen_lt l
      have : ((l : Nat) : Int) < 2 ^ natLen l := by exact_mod_cast this
      omega
    have hz : ∀ i, natLen l ≤ i → bitI n i = true := by
      intro i hi
      rw [bitI_high n (natLen l) i hn (by have : (0 : Int) < 2 ^ natLen l := Int.pow_pos (by omega)
                                          omega) hi]
      simp; omega
    refine ⟨R.lo, R.hi, R.ne, ?_, ?_, ?_, R.low, R.high⟩
    · intro i hi hk
      have hk' : (r.km ||| highs (natLen l)).testBit i = true := hk
      show _ = (r.kv ||| highs (natLen l)).testBit i
      rw [Nat.testBit_or, highs_bit] at hk' ⊢
      by_cases hl : natLen l ≤ i
      · rw [hz i hl]; simp [hl, hi]
      · simp only [hl, decide_false, Bool.false_and, Bool.or_false] at hk' ⊢
        exact R.bits i hi hk'
    · intro i hi
      have hi' : (r.kv ||| highs (natLen l)).testBit i = true := hi
      show _ ∧ (r.km ||| highs (natLen l)).testBit i = true
      rw [Nat.testBit_or, highs_bit] at hi' ⊢
      cases hv : r.kv.testBit i
      · rw [hv] at hi'
        simp at hi'
        exact ⟨hi'.2, by simp [hi'.1, hi'.2]⟩
      · obtain ⟨h1, h2⟩ := R.sub i hv
        exact ⟨h1, by simp [h2]⟩
    · exact Nat.or_lt_two_pow R.km (highs_lt _)
  · exact R

theorem tight_ok (S : Sat ρ e) (s : Sp) : Sat ρ (e.tight s) := by
  unfold Kn.tight
  split
  · exact S.setR (S.rs _).tight
  · exact S

theorem tight_ik (s : Sp) : (e.tight s).ik = e.ik := by
  unfold Kn.tight; split <;> rfl

/-- What is known holds, and the numbers are numbers. -/
structure Sats (ρ : Env) (e : Kn) : Prop where
  sat : Sat ρ e
  ints : ∀ x ∈ e.ik, ∃ n, ρ.v x = .int n

theorem drive_ok {α : Type} : ∀ (n : Nat) (e : Kn) (f : Kn → Ask α) (k : Option α → Kn → Bool), drive n e f k = true → Sats ρ e →
    ∃ e' r, Sats ρ e' ∧ k r e' = true ∧ ∀ a, r = some a → f e' = .ok a
  | 0, e, f, k, h, S => ⟨e, none, S, h, by intro a ha; cases ha⟩
  | n + 1, e, f, k, h, S => by
    unfold drive at h
    split at h
    · rename_i a ha
      exact ⟨e, some a, S, h, by intro b hb; cases hb; exact ha⟩
    · exact ⟨e, none, S, h, by intro a ha; cases ha⟩
    · rename_i s hs
      simp only [Bool.and_eq_true] at h
      have T := tell_ok S.sat s
      have hb := bad_ok T s
      have T' : Sats ρ ((e.tell s (s.holds ρ)).tight s) := ⟨tight_ok T s, by rw [tight_ik, tell_ik]; exact S.ints⟩
      cases hh : s.holds ρ
      · rw [hh] at hb T'
        have h2 := h.2
        rw [hb] at h2
        exact drive_ok n _ f k h2 T'
      · rw [hh] at hb T'
        have h1 := h.1
        rw [hb] at h1
        exact drive_ok n _ f k h1 T'

end

/-! ### Terms -/

/-- How many ones. -/
def popB : Nat → Int → Nat
  | 0, _ => 0
  | k + 1, n => (if n % 2 = 1 then 1 else 0) + popB k (n / 2)
def popI (n : Int) : Nat := popB 64 n

theorem popB_zero : ∀ k, popB k 0 = 0
  | 0 => rfl
  | k + 1 => by simp only [popB]; rw [show (0 : Int) / 2 = 0 from rfl, popB_zero k]; rfl

theorem popB_word (ρ : Env) : ∀ (l : List Lit) (k : Nat), l.length ≤ k → popB k (wval ρ l (.c false)) = cntV ρ l
  | [], k, _ => by
    have : wval ρ [] (.c false) = 0 := by simp [wval, Lit.val]
    rw [this, popB_zero]; rfl
  | a :: l, 0, h => by simp at h
  | a :: l, k + 1, h => by
    have hb := bi_bound (ρ := ρ) a
    rw [wval_cons, popB, cntV]
    rw [show (2 * wval ρ l (.c false) + bi ρ a) / 2 = wval ρ l (.c false) by omega, popB_word ρ l k (by simpa using h)]
    have h2 : (2 * wval ρ l (.c false) + bi ρ a) % 2 = bi ρ a := by omega
    rw [h2]
    unfold bi
    cases a.val ρ <;> simp

def Reps (ρ : Env) : List V → List Sc → Prop
  | [], [] => True
  | v :: vs, s :: ss => Rep ρ v s ∧ Reps ρ vs ss
  | _, _ => False

structure Sg.Ok (ρ : Env) (sg : Sg) : Prop where
  defs : ∀ g t, sg.defs g = some t → ∀ ss, ρ.f g ss = t.den ⟨fun i => ss.getD i (.int 0), ρ.f, ρ.val, ρ.ab⟩
  ufs : ∀ g xs y, (g, xs, y) ∈ sg.ufs → ∀ ss : List Sc, ss.map Sc.asInt = xs.map (fun x => (ρ.v x).asInt) → ρ.f g ss = ρ.v y
  pop : ∀ s : Sc, 0 ≤ s.asInt → (ρ.f sg.pop [s]).asInt = popI s.asInt

def RecOk (ρ : Env) (rec : Nat → List V → Kn → KV → Bool) : Prop :=
  ∀ g vs ss e k, Sats ρ e → Reps ρ vs ss → rec g vs e k = true → ∃ e' v, Sats ρ e' ∧ Rep ρ v (ρ.f g ss) ∧ k v e' = true

section
variable {ρ : Env} {e : Kn}

theorem trimL_val (t : Lit) : ∀ l : List Lit, wval ρ (trimL t l) t = wval ρ l t
  | [] => rfl
  | a :: l => by
    have ih := trimL_val t l
    unfold trimL
    split
    · rename_i h0
      rw [h0] at ih
      split
      · rename_i ha
        subst ha
        simp only [wval] at ih ⊢
        rw [← ih]
        cases a.val ρ <;> simp
      · simp only [wval] at ih ⊢
        rw [← ih]
    · rename_i b r h0
      rw [h0] at ih
      simp only [wval] at ih ⊢
      rw [ih]

theorem rawOf_ok (S : Sat ρ e) {v : V} {s : Sc} {x : Nat} (h : rawOf e v = some x) (hv : Rep ρ v s) : s.asInt = (ρ.v x).asInt := by
  unfold rawOf at h
  split at h
  · simp only [Option.some.injEq] at h; subst h; have : s = _ := hv; rw [this]
  · split at h
    · rename_i l t hw
      split at h
      · rename_i y l'
        split at h
        · rename_i w hw'
          split at h
          · rename_i he
            simp only [Option.some.injEq] at h; subst h
            simp only [Prod.mk.injEq] at he
            rw [toW_val S hw hv, toW_val S (l := w.1) (t := w.2) hw' (s := ρ.v y) rfl, ← trimL_val t (_ :: l'), ← trimL_val w.2 w.1, he.1, he.2]
          · cases h
        · cases h
      · cases h
    · cases h

theorem rawsOf_ok (S : Sat ρ e) : ∀ {vs : List V} {ss : List Sc} {xs : List Nat}, rawsOf e vs = some xs → Reps ρ vs ss → ss.map Sc.asInt = xs.map (fun x => (ρ.v x).asInt)
  | [], [], xs, h, _ => by simp [rawsOf] at h; subst h; rfl
  | [], _ :: _, _, _, r => r.elim
  | _ :: _, [], _, _, r => r.elim
  | v :: vs, s :: ss, xs, h, r => by
    unfold rawsOf at h
    split at h
    · rename_i x l hx hl
      simp only [Option.some.injEq] at h; subst h
      simp only [List.map_cons, rawOf_ok S hx r.1, rawsOf_ok S hl r.2]
    · cases h

theorem findU_mem : ∀ (l : List (Nat × List Nat × Nat)) (g : Nat) (xs : List Nat) (y : Nat), findU l g xs = some y → (g, xs, y) ∈ l
  | [], _, _, _, h => by cases h
  | (a, b, c) :: l, g, xs, y, h => by
    unfold findU at h
    split at h
    · rename_i he; obtain ⟨rfl, rfl⟩ := he; simp only [Option.some.injEq] at h; subst h; simp
    · exact List.mem_cons_of_mem _ (findU_mem l g xs y h)

theorem orTop_rep {r : Option V} {s : Sc} (h : ∀ v, r = some v → Rep ρ v s) : Rep ρ (orTop r) s := by
  cases r with
  | none => trivial
  | some v => exact h v rfl

end

section
variable {ρ : Env} {sg : Sg} {rec : Nat → List V → Kn → KV → Bool}

/-- A term that is looked at. -/
def EvOk (ρ : Env) (sg : Sg) (rec : Nat → List V → Kn → KV → Bool) (t : Tm) : Prop :=
  ∀ (σ : Option (List V)) (η : Env), η.f = ρ.f → (∀ i, Rep ρ (locV σ i) (η.v i)) → ∀ e k, Sats ρ e → ev sg rec σ t e k = true → ∃ e' v, Sats ρ e' ∧ Rep ρ v (t.den η) ∧ k v e' = true

def EvLOk (ρ : Env) (sg : Sg) (rec : Nat → List V → Kn → KV → Bool) (t : Tm) : Prop :=
  ∀ (σ : Option (List V)) (η : Env), η.f = ρ.f → (∀ i, Rep ρ (locV σ i) (η.v i)) → ∀ e k, Sats ρ e → ev.evA sg rec σ t e k = true → ∃ e' vs, Sats ρ e' ∧ (isList t = true → Reps ρ vs (t.den η).asList) ∧ k vs e' = true

theorem truth_drive {e : Kn} {v : V} {s : Sc} {k : Option Bool → Kn → Bool} (S : Sats ρ e) (hv : Rep ρ v s) (h : drive 100 e (fun e => truthV e v) k = true) :
    ∃ e' r, Sats ρ e' ∧ k r e' = true ∧ ∀ b, r = some b → s.asBool = b := by
  obtain ⟨e', r, S', hk, hr⟩ := drive_ok 100 e _ k h S
  exact ⟨e', r, S', hk, fun b hb => truthV_ok S'.sat (hr b hb) hv⟩


theorem Reps.get {vs : List V} {ss : List Sc} (h : Reps ρ vs ss) : ∀ i, Rep ρ (vs.getD i .top) (ss.getD i (.int 0)) := by
  induction vs generalizing ss with
  | nil => intro i; simp; trivial
  | cons v vs ih =>
    cases ss with
    | nil => exact h.elim
    | cons s ss =>
      intro i
      cases i with
      | zero => simpa using h.1
      | succ i => simpa using ih h.2 i

theorem ev_op1 {o : Op1} {a : Tm} (ha : EvOk ρ sg rec a) : EvOk ρ sg rec (.op1 o a) := by
  intro σ η hf hσ e k S h
  unfold ev at h
  obtain ⟨e1, v, S1, hv, h⟩ := ha σ η hf hσ e _ S h
  obtain ⟨e2, r, S2, hk, hr⟩ := drive_ok 100 e1 _ _ h S1
  exact ⟨e2, _, S2, orTop_rep (fun u hu => o1_ok S2.sat S2.ints (hr u hu) hv), hk⟩

theorem ev_op2 {o : Op2} {a b : Tm} (ha : EvOk ρ sg rec a) (hb : EvOk ρ sg rec b) : EvOk ρ sg rec (.op2 o a b) := by
  intro σ η hf hσ e k S h
  by_cases h1 : o = .band
  · subst h1
    unfold ev at h
    obtain ⟨e1, v, S1, hv, h⟩ := ha σ η hf hσ e _ S h
    obtain ⟨e2, r, S2, h, hr⟩ := truth_drive S1 hv h
    split at h
    · have h0 := hr true rfl
      obtain ⟨e3, u, S3, hu, h⟩ := hb σ η hf hσ e2 _ S2 h
      obtain ⟨e4, r, S4, h, hr'⟩ := truth_drive S3 hu h
      split at h
      · rename_i b'
        refine ⟨e4, _, S4, ?_, h⟩
        show ((a.den η).asBool && (b.den η).asBool) = b'
        rw [h0, hr' b' rfl]; rfl
      · exact ⟨e4, .top, S4, trivial, h⟩
    · have h0 := hr false rfl
      refine ⟨e2, _, S2, ?_, h⟩
      show ((a.den η).asBool && (b.den η).asBool) = false
      rw [h0]; rfl
    · exact ⟨e2, .top, S2, trivial, h⟩
  by_cases h2 : o = .bor
  · subst h2
    unfold ev at h
    obtain ⟨e1, v, S1, hv, h⟩ := ha σ η hf hσ e _ S h
    obtain ⟨e2, r, S2, h, hr⟩ := truth_drive S1 hv h
    split at h
    · have h0 := hr false rfl
      obtain ⟨e3, u, S3, hu, h⟩ := hb σ η hf hσ e2 _ S2 h
      obtain ⟨e4, r, S4, h, hr'⟩ := truth_drive S3 hu h
      split at h
      · rename_i b'
        refine ⟨e4, _, S4, ?_, h⟩
        show ((a.den η).asBool || (b.den η).asBool) = b'
        rw [h0, hr' b' rfl]; rfl
      · exact ⟨e4, .top, S4, trivial, h⟩
    · have h0 := hr true rfl
      refine ⟨e2, _, S2, ?_, h⟩
      show ((a.den η).asBool || (b.den η).asBool) = true
      rw [h0]; rfl
    · exact ⟨e2, .top, S2, trivial, h⟩
  · have h' : (ev sg rec σ a e fun v e => ev sg rec σ b e fun u e => drive 100 e (o2 o v u) fun r e => k (orTop r) e) = true := by
      cases o <;> first | exact (h1 rfl).elim | exact (h2 rfl).elim | (unfold ev at h; exact h)
    obtain ⟨e1, v, S1, hv, h⟩ := ha σ η hf hσ e _ S h'
    obtain ⟨e2, u, S2, hu, h⟩ := hb σ η hf hσ e1 _ S1 h
    obtain ⟨e3, r, S3, hk, hr⟩ := drive_ok 100 e2 _ _ h S2
    exact ⟨e3, _, S3, orTop_rep (fun w hw => o2_ok S3.sat (hr w hw) hv hu), hk⟩

theorem ev_ite {c a b : Tm} (hc : EvOk ρ sg rec c) (ha : EvOk ρ sg rec a) (hb : EvOk ρ sg rec b) : EvOk ρ sg rec (.ite c a b) := by
  intro σ η hf hσ e k S h
  unfold ev at h
  obtain ⟨e1, v, S1, hv, h⟩ := hc σ η hf hσ e _ S h
  obtain ⟨e2, r, S2, h, hr⟩ := truth_drive S1 hv h
  split at h
  · have h0 := hr true rfl
    have hd : (Tm.ite c a b).den η = a.den η := by simp only [Tm.den, h0]
    rw [hd]
    exact ha σ η hf hσ e2 _ S2 h
  · have h0 := hr false rfl
    have hd : (Tm.ite c a b).den η = b.den η := by simp only [Tm.den, h0]
    rw [hd]
    exact hb σ η hf hσ e2 _ S2 h
  · exact ⟨e2, .top, S2, trivial, h⟩

theorem ev_app (so : sg.Ok ρ) (hrec : RecOk ρ rec) {g : Nat} {a : Tm} (ha : EvLOk ρ sg rec a) : EvOk ρ sg rec (.app g a) := by
  intro σ η hf hσ e k S h
  unfold ev at h
  cases hl0 : sg.looks g a
  · rw [hl0] at h
    exact ⟨e, .top, S, trivial, h⟩
  · rw [hl0] at h
    have hl : isList a = true := by
      unfold Sg.looks at hl0
      split at hl0
      · exact hl0
      · cases hl0
    obtain ⟨e1, vs, S1, hvs, h'⟩ := ha σ η hf hσ e _ S h
    clear h
    have R := hvs hl
    have hd : (Tm.app g a).den η = ρ.f g (a.den η).asList := by simp only [Tm.den, hf]
    rw [hd]
    split at h'
    · exact hrec g vs _ e1 k S1 R h'
    · split at h'
      · rename_i v hg
        have hg' := Nat.eq_of_beq_eq_true hg
        subst hg'
        split at h'
        · rename_i l hw
          split at h'
          · rename_i hlen
            refine ⟨e1, _, S1, ?_, h'⟩
            revert R
            generalize (a.den η).asList = ss
            intro R
            match ss, R with
            | [s], R =>
              have h1 := toW_val S1.sat hw R.1
              have hn : 0 ≤ s.asInt := by rw [h1]; exact wval_nonneg ρ rfl l
              show (ρ.f sg.pop [s]).asInt = _
              have hp := popB_word ρ l 64 (Nat.le_of_ble_eq_true hlen)
              rw [so.pop s hn, h1]
              unfold popI
              rw [hp]
            | [], R => exact R.elim
            | _ :: _ :: _, R => exact R.2.elim
          · exact ⟨e1, .top, S1, trivial, h'⟩
        · exact ⟨e1, .top, S1, trivial, h'⟩
      · split at h'
        · rename_i xs hx
          split at h'
          · rename_i y hy
            refine ⟨e1, _, S1, ?_, h'⟩
            exact so.ufs g xs y (findU_mem _ _ _ _ hy) _ (rawsOf_ok S1.sat hx R)
          · exact ⟨e1, .top, S1, trivial, h'⟩
        · exact ⟨e1, .top, S1, trivial, h'⟩

theorem ev_both (so : sg.Ok ρ) (hrec : RecOk ρ rec) (t : Tm) : EvOk ρ sg rec t ∧ EvLOk ρ sg rec t := by
  have none' : ∀ t : Tm, isList t = false → (∀ σ e k, ev.evA sg rec σ t e k = k [] e) → EvLOk ρ sg rec t := by
    intro t hl he σ η hf hσ e k S h
    rw [he] at h
    exact ⟨e, [], S, (by intro h; rw [hl] at h; cases h), h⟩
  induction t with
  | var i => exact ⟨fun σ η hf hσ e k S h => ⟨e, _, S, hσ i, by unfold ev at h; exact h⟩, none' _ rfl (fun _ _ _ => by unfold ev.evA; rfl)⟩
  | num n => exact ⟨fun σ η hf hσ e k S h => ⟨e, .num n, S, rfl, by unfold ev at h; exact h⟩, none' _ rfl (fun _ _ _ => by unfold ev.evA; rfl)⟩
  | bit b => exact ⟨fun σ η hf hσ e k S h => ⟨e, .bit b, S, rfl, by unfold ev at h; exact h⟩, none' _ rfl (fun _ _ _ => by unfold ev.evA; rfl)⟩
  | text s => exact ⟨fun σ η hf hσ e k S h => ⟨e, .top, S, trivial, by unfold ev at h; exact h⟩, none' _ rfl (fun _ _ _ => by unfold ev.evA; rfl)⟩
  | op1 o a ih => exact ⟨ev_op1 ih.1, none' _ rfl (fun _ _ _ => by unfold ev.evA; rfl)⟩
  | op2 o a b iha ihb => exact ⟨ev_op2 iha.1 ihb.1, none' _ rfl (fun _ _ _ => by unfold ev.evA; rfl)⟩
  | ite c a b ihc iha ihb => exact ⟨ev_ite ihc.1 iha.1 ihb.1, none' _ rfl (fun _ _ _ => by unfold ev.evA; rfl)⟩
  | nil =>
    refine ⟨fun σ η hf hσ e k S h => ⟨e, .top, S, trivial, by unfold ev at h; exact h⟩, ?_⟩
    intro σ η hf hσ e k S h
    unfold ev.evA at h
    exact ⟨e, [], S, fun _ => trivial, h⟩
  | cons a b iha ihb =>
    refine ⟨fun σ η hf hσ e k S h => ⟨e, .top, S, trivial, by unfold ev at h; exact h⟩, ?_⟩
    intro σ η hf hσ e k S h
    unfold ev.evA at h
    obtain ⟨e1, v, S1, hv, h⟩ := iha.1 σ η hf hσ e _ S h
    obtain ⟨e2, vs, S2, hvs, h⟩ := ihb.2 σ η hf hσ e1 _ S1 h
    exact ⟨e2, v :: vs, S2, fun hl => ⟨hv, hvs hl⟩, h⟩
  | app g a ih => exact ⟨ev_app so hrec ih.2, none' _ rfl (fun _ _ _ => by unfold ev.evA; rfl)⟩

theorem evN_ok (so : sg.Ok ρ) : ∀ n, RecOk ρ (evN sg n)
  | 0 => by
    intro g vs ss e k S R h
    exact ⟨e, .top, S, trivial, h⟩
  | n + 1 => by
    intro g vs ss e k S R h
    unfold evN at h
    split at h
    · rename_i t ht
      rw [so.defs g t ht ss]
      exact (ev_both so (evN_ok so n) t).1 (some vs) ⟨fun i => ss.getD i (.int 0), ρ.f, ρ.val, ρ.ab⟩ rfl (fun i => R.get i) e k S h
    · exact ⟨e, .top, S, trivial, h⟩

theorem ev_ok (so : sg.Ok ρ) (n : Nat) (t : Tm) {e : Kn} {k : KV} (S : Sats ρ e) (h : ev sg (evN sg n) none t e k = true) : ∃ e' v, Sats ρ e' ∧ Rep ρ v (t.den ρ) ∧ k v e' = true :=
  (ev_both so (evN_ok so n) t).1 none ρ rfl (fun _ => rfl) e k S h

theorem pxT_ok (so : sg.Ok ρ) {t : Tm} {e : Kn} {k : Kn → Bool} (S : Sats ρ e) (h : pxT sg t e k = true) : (t.den ρ).asBool = true ∧ ∃ e', Sats ρ e' ∧ k e' = true := by
  unfold pxT at h
  obtain ⟨e1, v, S1, hv, h⟩ := ev_ok so 5 t S h
  obtain ⟨e2, r, S2, h, hr⟩ := truth_drive S1 hv h
  split at h
  · exact ⟨hr true rfl, e2, S2, h⟩
  · cases h

/-- THE DECIDER: the tree has an answer, and this is true, wherever what is known holds. -/
theorem pxTree_ok (so : sg.Ok ρ) : ∀ (t : Tree Res) (e : Kn), Sats ρ e → pxTree sg t e = true → ∃ x b, t.get ρ = some x ∧ x.v = .bool b ∧ (b.den ρ).asBool = true
  | .leaf x, e, S, h => by
    unfold pxTree at h
    split at h
    · rename_i b hb
      exact ⟨x, b, rfl, hb, (pxT_ok so S h).1⟩
    · cases h
  | .ite c a b, e, S, h => by
    unfold pxTree at h
    obtain ⟨e1, v, S1, hv, h⟩ := ev_ok so 5 c S h
    obtain ⟨e2, r, S2, h, hr⟩ := truth_drive S1 hv h
    split at h
    · obtain ⟨x, t, h1, h2, h3⟩ := pxTree_ok so a e2 S2 h
      exact ⟨x, t, by simp only [Tree.get, hr true rfl]; exact h1, h2, h3⟩
    · obtain ⟨x, t, h1, h2, h3⟩ := pxTree_ok so b e2 S2 h
      exact ⟨x, t, by simp only [Tree.get, hr false rfl]; exact h1, h2, h3⟩
    · cases h
  | .assert c a, e, S, h => by
    unfold pxTree at h
    simp only [Bool.and_eq_true] at h
    obtain ⟨h0, _⟩ := pxT_ok so S h.1
    obtain ⟨x, t, h1, h2, h3⟩ := pxTree_ok so a e S h.2
    exact ⟨x, t, by simp only [Tree.get, h0]; exact h1, h2, h3⟩
  | .fail w, e, S, h => by simp [pxTree] at h

end
end
end Go.Sx
