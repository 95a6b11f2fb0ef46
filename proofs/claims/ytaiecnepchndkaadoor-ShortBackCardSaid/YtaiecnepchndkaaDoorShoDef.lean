/- For the seat: laws of a halfword: the cases of the input. -/
import Derived.Test.YtaiecnepchndkaaDoorLaw
namespace Go.Proofs.YtaiecnepchndkaaDoor
open Go.Sx Go.ChangeShapes Go.WideShapes Go.RowKit Go.Joins Go.Deep

set_option maxRecDepth 100000 in
theorem awake10 : isTrue (callT cx noS (run cx noS 3000) 24 [] [] (.bit true)) = true := by kernel_rfl
theorem body24 : ∃ fn c, cx.P.funcs[24]? = some fn ∧ fn.body = some c := ⟨Tryd.f24, _, Tryd.func24, rfl⟩

namespace sho
noncomputable def cxs : Cx := { P := Tryd.prog, okT := [23], globs := [(0, kindsS)], sharp := true }
theorem cxsok : cxs.Ok := ⟨cxok.1, cxok.2, cxok.3⟩

/-- A halfword some of whose bits are known. -/
def hT (m p : Nat) : Tm := .op2 (.or .i64) (.num (.ofNat p)) (.op2 (.and .i64) (.var 0) (.num (.negSucc m)))
def kn1 : Kn := ⟨[], [], [], [], [0]⟩
noncomputable def at2 (f m p : Nat) : Bool := pxTree sg (callT cxs (lawS 24) (run cxs (lawS 24) 3000) f [.int .i64 (hT m p), .bool (.var 1)] [] (.bit true)) kn1
noncomputable def at1 (f m p : Nat) : Bool := pxTree sg (callT cxs (lawS 24) (run cxs (lawS 24) 3000) f [.int .i64 (hT m p)] [] (.bit true)) kn1

/-- The cases: bits that are known, and what they are. -/
def cases : List (Nat × Nat) := [(65024, 0), (65024, 512), (65024, 1024), (65024, 1536), (65024, 2048), (65024, 2560), (65024, 3072), (65024, 3584), (65024, 4096), (65024, 4608), (65024, 5120), (65024, 5632), (65024, 6144), (65024, 6656), (65024, 7168), (65024, 7680), (65024, 8192), (65024, 8704), (65024, 9216), (65024, 9728), (65024, 10240), (65024, 10752), (65024, 11264), (65024, 11776), (65024, 12288), (65024, 12800), (65024, 13312), (65024, 13824), (65024, 14336), (65024, 14848), (65024, 15360), (65024, 15872), (65472, 16384), (65472, 16448), (65472, 16512), (65472, 16576), (65472, 16640), (65472, 16704), (65472, 16768), (65472, 16832), (65472, 16896), (65472, 16960), (65472, 17024), (65472, 17088), (65472, 17152), (65472, 17216), (65472, 17280), (65472, 17344), (65280, 17408), (65280, 17664), (65280, 17920), (65280, 18176), (63488, 18432), (65024, 20480), (65024, 20992), (65024, 21504), (65024, 22016), (65024, 22528), (65024, 23040), (65024, 23552), (65024, 24064), (63488, 24576), (63488, 26624), (63488, 28672), (63488, 30720), (63488, 32768), (63488, 34816), (63488, 36864), (63488, 38912), (63488, 40960), (63488, 43008), (65280, 45056), (65280, 45312), (65280, 45568), (65280, 45824), (65280, 46080), (65280, 46336), (65280, 46592), (65280, 46848), (65280, 47104), (65280, 47360), (65280, 47616), (65280, 47872), (65280, 48128), (65280, 48384), (65280, 48640), (65280, 48896), (63488, 49152), (63488, 51200), (61440, 53248), (63488, 57344), (63488, 59392), (63488, 61440), (63488, 63488)]

def covers (t : Nat) : Bool := cases.any fun c => Nat.beq (Nat.land t c.1) c.2
def coversAll : Nat → Bool
  | 0 => true
  | n + 1 => covers (Nat.mul 64 n) && coversAll n
set_option maxRecDepth 100000 in
theorem cov : coversAll 1024 = true := by kernel_rfl
theorem coversAll_get : ∀ n, coversAll n = true → ∀ t, t < n → covers (64 * t) = true
  | 0, _, t, h => by omega
  | n + 1, h, t, ht => by
    simp only [coversAll, Bool.and_eq_true] at h
    by_cases e : t = n
    · subst e; exact h.1
    · exact coversAll_get n h.2 t (by omega)
def topOnly (c : Nat × Nat) : Bool := Nat.beq (Nat.land c.1 63) 0 && Nat.blt c.1 65536
theorem tops : cases.all topOnly = true := by decide +kernel

/-- Every number has the bits of some case. -/
theorem case_of (n : Int) : ∃ c ∈ cases, ∀ i, i < 64 → c.1.testBit i = true → bitI n i = c.2.testBit i := by
  have h0 : (0 : Int) ≤ n % 65536 := Int.emod_nonneg _ (by decide)
  have h1 : n % 65536 < 65536 := Int.emod_lt_of_pos _ (by decide)
  obtain ⟨r, hr⟩ := Int.eq_ofNat_of_zero_le h0
  have hcov := coversAll_get 1024 cov (r / 64) (by omega)
  unfold covers at hcov
  obtain ⟨c, hc, he⟩ := List.any_eq_true.1 hcov
  have he := Nat.eq_of_beq_eq_true he
  have ht := List.all_eq_true.1 tops c hc
  simp only [topOnly, Bool.and_eq_true] at ht
  have ht1 := Nat.eq_of_beq_eq_true ht.1
  have ht2 : c.1 < 2 ^ 16 := blt_lt ht.2
  refine ⟨c, hc, fun i hi hb => ?_⟩
  have i16 : i < 16 := by
    rcases Nat.lt_or_ge i 16 with h | h
    · exact h
    · rw [Nat.testBit_lt_two_pow (Nat.lt_of_lt_of_le ht2 (Nat.pow_le_pow_right (by omega) h))] at hb; cases hb
  have i6 : 6 ≤ i := by
    rcases Nat.lt_or_ge i 6 with h | h
    · have := congrArg (fun x => x.testBit i) ht1
      simp only [land_bit, hb, Nat.zero_testBit, Bool.true_and] at this
      rw [show (63 : Nat) = 2 ^ 6 - 1 from rfl, Nat.testBit_two_pow_sub_one, decide_eq_true h] at this
      cases this
    · exact h
  have e1 : bitI n i = r.testBit i := by
    rw [← bitI_nat, ← hr]
    exact (bitI_emod n 16 i i16).symm
  have e2 := congrArg (fun x => x.testBit i) he
  simp only [land_bit, hb, Bool.and_true] at e2
  rw [e1, ← e2]
  have : 64 * (r / 64) = Nat.shiftLeft (Nat.shiftRight r 6) 6 := by
    show _ = (r >>> 6) <<< 6
    rw [Nat.shiftLeft_eq, Nat.shiftRight_eq_div_pow]; omega
  rw [this, shl_bit, shr_bit, decide_eq_true i6]
  simp only [Bool.true_and]
  congr 1; omega

theorem hT_den {ρ : Env} {n : Int} (h1 : -2 ^ 63 ≤ n) (h2 : n < 2 ^ 63) (hv : ρ.v 0 = .int n) {c : Nat × Nat} (hc : ∀ i, i < 64 → c.1.testBit i = true → bitI n i = c.2.testBit i) (hs : Nat.land c.2 c.1 = c.2) : (hT c.1 c.2).den ρ = .int n := by
  have a := fun x y i (hi : i < 64) => bitsOp_bit .i64 (fun a b => a &&& b) (· && ·) (by intro a b i _; simp) x y i hi
  have o := fun x y i (hi : i < 64) => bitsOp_bit .i64 (fun a b => a ||| b) (· || ·) (by intro a b i _; simp) x y i hi
  show Sc.int (bitsOp .i64 (fun a b => a ||| b) (Int.ofNat c.2) (bitsOp .i64 (fun a b => a &&& b) (ρ.v 0).asInt (Int.negSucc c.1))) = Sc.int n
  congr 1
  rw [hv]
  refine eq_of_has (k := .i64) (bitsOp_has _ _ _ _) ⟨h1, h2⟩ fun i hi => ?_
  rw [o _ _ i hi, a _ _ i hi]
  have e1 : bitI (Int.ofNat c.2) i = c.2.testBit i := bitI_nat _ _
  have e2 : bitI (Int.negSucc c.1) i = !c.1.testBit i := by
    have : Int.negSucc c.1 = -1 - (c.1 : Int) := by omega
    rw [← bitI_nat, this]
    unfold bitI
    have hp : (0 : Int) < 2 ^ i := Int.pow_pos (by omega)
    have key : (-1 - (c.1 : Int)) / 2 ^ i = -1 - (c.1 : Int) / 2 ^ i := by
      have hd := Int.mul_ediv_add_emod (c.1 : Int) (2 ^ i)
      have m1 := Int.emod_nonneg (c.1 : Int) (Int.ne_of_gt hp)
      have m2 := Int.emod_lt_of_pos (c.1 : Int) hp
      have : -1 - (c.1 : Int) = (2 ^ i - 1 - (c.1 : Int) % 2 ^ i) + 2 ^ i * (-1 - (c.1 : Int) / 2 ^ i) := by
        rw [Int.mul_sub, Int.mul_neg, Int.mul_one]; omega
      rw [this, Int.add_mul_ediv_left _ _ (Int.ne_of_gt hp), Int.ediv_eq_zero_of_lt (by omega) (by omega)]; omega
    rw [key]
    by_cases hh : (c.1 : Int) / 2 ^ i % 2 = 1
    · rw [decide_eq_true hh]; exact decide_eq_false (by omega)
    · rw [decide_eq_false hh]; exact decide_eq_true (by omega)
  have e3 := congrArg (fun x => x.testBit i) hs
  simp only [land_bit] at e3
  simp only [Sc.asInt_int, e1, e2]
  cases hb : c.1.testBit i
  · rw [hb] at e3
    rw [← e3]; simp
  · rw [hc i hi hb]; simp
end sho

def scsH (n : Int) (it : Bool) : List Sc := [.int n, .bool it]

theorem scsH_ok {n : Int} (h : kHas .i64 n) (it : Bool) : VarsOk (envOf F (scsH n it)) := by
  refine ⟨?_, F_has⟩
  intro i
  match i with
  | 0 => exact h
  | 1 => exact zero_has
  | k + 2 => exact zero_has

theorem knH_ok {n : Int} (h : kHas .i64 n) (it : Bool) : Sats (envOf F (scsH n it)) sho.kn1 := by
  refine Sats.start (scsH_ok h it) _ ?_
  intro i hi
  simp only [List.mem_cons, List.not_mem_nil, or_false] at hi
  subst hi
  exact ⟨_, rfl⟩

theorem sho_sub : sho.cases.all (fun c => Nat.beq (Nat.land c.2 c.1) c.2) = true := by decide +kernel

/-- A law of a halfword and a truth is true at every input, if it is so in all cases. -/
theorem sho_two {f : Nat} (H : ∀ c ∈ sho.cases, sho.at2 f c.1 c.2 = true) {n : Int} (hn : kHas .i64 n) (it : Bool) {w : World} (hw : Laid w) : Calls Tryd.prog f #[.int .i64 n, .bool it] w fun e w' => e = .returned (.bool true) ∧ Grown w w' := by
  obtain ⟨c, hc, hb⟩ := sho.case_of n
  have hd := sho.hT_den (ρ := envOf F (scsH n it)) hn.1 hn.2 rfl hb (Nat.eq_of_beq_eq_true (List.all_eq_true.1 sho_sub c hc))
  have := law_px (ρ := envOf F (scsH n it)) sho.cxsok (lawS_ok awake10 (scsH_ok hn it) rfl) (lawS_body body24) (by intro v hv; simp at hv; rcases hv with rfl | rfl <;> rfl) rfl (sg_ok rfl) (knH_ok hn it) (H c hc) w (start _ hw)
  simp only [List.map_cons, List.map_nil, SVal.conc, hd] at this
  exact this

theorem sho_one {f : Nat} (H : ∀ c ∈ sho.cases, sho.at1 f c.1 c.2 = true) {n : Int} (hn : kHas .i64 n) {w : World} (hw : Laid w) : Calls Tryd.prog f #[.int .i64 n] w fun e w' => e = .returned (.bool true) ∧ Grown w w' := by
  obtain ⟨c, hc, hb⟩ := sho.case_of n
  have hd := sho.hT_den (ρ := envOf F (scsH n false)) hn.1 hn.2 rfl hb (Nat.eq_of_beq_eq_true (List.all_eq_true.1 sho_sub c hc))
  have := law_px (ρ := envOf F (scsH n false)) sho.cxsok (lawS_ok awake10 (scsH_ok hn false) rfl) (lawS_body body24) (by intro v hv; simp at hv; subst hv; rfl) rfl (sg_ok rfl) (knH_ok hn false) (H c hc) w (start _ hw)
  simp only [List.map_cons, List.map_nil, SVal.conc, hd] at this
  exact this

end Go.Proofs.YtaiecnepchndkaaDoor
