/- For the seat: texts joined: Spd, Tpd, Dec, StmDef, SamI, KerDef, KerA, KerS, KerU. -/
import Derived.Test.YtnpfihlaocpcfaaGreatDoorJHSpdP0
import Derived.Test.YtnpfihlaocpcfaaGreatDoorJHTpdP0
import Derived.Test.YtnpfihlaocpcfaaGreatDoorJHTpdP1
import Derived.Test.YtnpfihlaocpcfaaGreatDoorJHTpdP2
import Derived.Test.YtnpfihlaocpcfaaGreatDoorJHTpdP3
import Derived.Test.YtnpfihlaocpcfaaGreatDoorJHTpdP4
import Derived.Test.YtnpfihlaocpcfaaGreatDoorJHTpdP5
import Derived.Test.YtnpfihlaocpcfaaGreatDoorJL1a
import Derived.Test.YtnpfihlaocpcfaaGreatDoorJL1b
import Derived.RangeFuncBox
import Derived.RangeFuncNested
import Derived.TacticsInMore
import Derived.LoopNIn
import Derived.Test.YtnpfihlaocpcfaaGreatDoorJL0a
import Derived.Lib.Strings
import Derived.WalkLawsBesides
/- Spd: all cases of the input. -/
namespace Go.Proofs.YtnpfihlaocpcfaaGreatDoor.spd
open Go.Sx
set_option maxRecDepth 100000
theorem pc {P : Nat → Bool} {X E a n : Nat} (w : ((List.range' a n).all fun j => P j) = true) (rest : ∀ j : Nat, a + n ≤ j → j < E → j ≠ X → P j = true) : ∀ j : Nat, a ≤ j → j < E → j ≠ X → P j = true := fun j h1 h2 h3 => by
  rcases Nat.lt_or_ge j (a + n) with h | h
  · exact List.all_eq_true.1 w j (List.mem_range'_1.2 ⟨h1, h⟩)
  · exact rest j h h2 h3
set_option maxRecDepth 100000 in
theorem pcg {P : Nat → Bool} {E a n : Nat} (w : ((List.range' a n).all fun j => P j) = true) (rest : ∀ j : Nat, a + n + 1 ≤ j → j < E → j ≠ a + n → P j = true) : ∀ j : Nat, a ≤ j → j < E → j ≠ a + n → P j = true := fun j h1 h2 h3 => by
  rcases Nat.lt_or_ge j (a + n) with h | h
  · exact List.all_eq_true.1 w j (List.mem_range'_1.2 ⟨h1, h⟩)
  · exact rest j (by omega) h2 h3
set_option maxRecDepth 100000 in
set_option maxHeartbeats 4000000 in
theorem all' : ∀ j : Nat, 0 ≤ j → j < 94 → j ≠ 94 → sho.atP j = true := by
  refine pc w0x0 ?_
  refine pc w0x8 ?_
  refine pc w0x16 ?_
  refine pc w0x24 ?_
  refine pc w0x32 ?_
  refine pc w0x40 ?_
  refine pc w0x48 ?_
  refine pc w0x56 ?_
  refine pc w0x64 ?_
  refine pc w0x72 ?_
  refine pc w0x80 ?_
  refine pc w0x88 ?_
  intro j h1 h2 _
  exact absurd h2 (Nat.not_lt.2 h1)
set_option maxRecDepth 100000 in
theorem all : ∀ j : Nat, j < 94 → sho.atP j = true := fun j h => all' j (Nat.zero_le _) h (Nat.ne_of_lt h)
end Go.Proofs.YtnpfihlaocpcfaaGreatDoor.spd
/- Tpd: all cases of the input; the one that falls by memory parted in 16. -/
namespace Go.Proofs.YtnpfihlaocpcfaaGreatDoor.tpd
open Go.Sx
set_option maxRecDepth 100000
theorem pc {P : Nat → Bool} {X E a n : Nat} (w : ((List.range' a n).all fun j => P j) = true) (rest : ∀ j : Nat, a + n ≤ j → j < E → j ≠ X → P j = true) : ∀ j : Nat, a ≤ j → j < E → j ≠ X → P j = true := fun j h1 h2 h3 => by
  rcases Nat.lt_or_ge j (a + n) with h | h
  · exact List.all_eq_true.1 w j (List.mem_range'_1.2 ⟨h1, h⟩)
  · exact rest j h h2 h3
set_option maxRecDepth 100000 in
theorem pcg {P : Nat → Bool} {E a n : Nat} (w : ((List.range' a n).all fun j => P j) = true) (rest : ∀ j : Nat, a + n + 1 ≤ j → j < E → j ≠ a + n → P j = true) : ∀ j : Nat, a ≤ j → j < E → j ≠ a + n → P j = true := fun j h1 h2 h3 => by
  rcases Nat.lt_or_ge j (a + n) with h | h
  · exact List.all_eq_true.1 w j (List.mem_range'_1.2 ⟨h1, h⟩)
  · exact rest j (by omega) h2 h3
set_option maxRecDepth 100000 in
set_option maxHeartbeats 4000000 in
theorem all' : ∀ j : Nat, 0 ≤ j → j < 454 → j ≠ 15 → tal.atP j = true := by
  refine pc w0x0 ?_
  refine pc w0x2 ?_
  refine pc w0x4 ?_
  refine pc w0x6 ?_
  refine pc w0x8 ?_
  refine pc w0x10 ?_
  refine pc w0x12 ?_
  refine pcg w0x14 ?_
  refine pc w0x16 ?_
  refine pc w0x18 ?_
  refine pc w0x20 ?_
  refine pc w0x22 ?_
  refine pc w0x24 ?_
  refine pc w0x26 ?_
  refine pc w0x28 ?_
  refine pc w0x30 ?_
  refine pc w0x32 ?_
  refine pc w0x34 ?_
  refine pc w0x36 ?_
  refine pc w0x38 ?_
  refine pc w0x40 ?_
  refine pc w0x42 ?_
  refine pc w0x44 ?_
  refine pc w0x46 ?_
  refine pc w0x48 ?_
  refine pc w0x50 ?_
  refine pc w0x52 ?_
  refine pc w0x54 ?_
  refine pc w0x56 ?_
  refine pc w0x58 ?_
  refine pc w0x60 ?_
  refine pc w0x62 ?_
  refine pc w0x64 ?_
  refine pc w0x66 ?_
  refine pc w0x68 ?_
  refine pc w0x70 ?_
  refine pc w0x72 ?_
  refine pc w0x74 ?_
  refine pc w0x76 ?_
  refine pc w0x78 ?_
  refine pc w0x80 ?_
  refine pc w0x82 ?_
  refine pc w0x84 ?_
  refine pc w0x86 ?_
  refine pc w0x88 ?_
  refine pc w0x90 ?_
  refine pc w0x92 ?_
  refine pc w0x94 ?_
  refine pc w0x96 ?_
  refine pc w0x98 ?_
  refine pc w0x100 ?_
  refine pc w0x102 ?_
  refine pc w0x104 ?_
  refine pc w0x106 ?_
  refine pc w0x108 ?_
  refine pc w0x110 ?_
  refine pc w0x112 ?_
  refine pc w0x114 ?_
  refine pc w0x116 ?_
  refine pc w0x118 ?_
  refine pc w0x120 ?_
  refine pc w0x122 ?_
  refine pc w0x124 ?_
  refine pc w0x126 ?_
  refine pc w0x128 ?_
  refine pc w0x130 ?_
  refine pc w0x132 ?_
  refine pc w0x134 ?_
  refine pc w0x136 ?_
  refine pc w0x138 ?_
  refine pc w0x140 ?_
  refine pc w0x142 ?_
  refine pc w0x144 ?_
  refine pc w0x146 ?_
  refine pc w0x148 ?_
  refine pc w0x150 ?_
  refine pc w0x152 ?_
  refine pc w0x154 ?_
  refine pc w0x156 ?_
  refine pc w0x158 ?_
  refine pc w0x160 ?_
  refine pc w0x162 ?_
  refine pc w0x164 ?_
  refine pc w0x166 ?_
  refine pc w0x168 ?_
  refine pc w0x170 ?_
  refine pc w0x172 ?_
  refine pc w0x174 ?_
  refine pc w0x176 ?_
  refine pc w0x178 ?_
  refine pc w0x180 ?_
  refine pc w0x182 ?_
  refine pc w0x184 ?_
  refine pc w0x186 ?_
  refine pc w0x188 ?_
  refine pc w0x190 ?_
  refine pc w0x192 ?_
  refine pc w0x194 ?_
  refine pc w0x196 ?_
  refine pc w0x198 ?_
  refine pc w0x200 ?_
  refine pc w0x202 ?_
  refine pc w0x204 ?_
  refine pc w0x206 ?_
  refine pc w0x208 ?_
  refine pc w0x210 ?_
  refine pc w0x212 ?_
  refine pc w0x214 ?_
  refine pc w0x216 ?_
  refine pc w0x218 ?_
  refine pc w0x220 ?_
  refine pc w0x222 ?_
  refine pc w0x224 ?_
  refine pc w0x226 ?_
  refine pc w0x228 ?_
  refine pc w0x230 ?_
  refine pc w0x232 ?_
  refine pc w0x234 ?_
  refine pc w0x236 ?_
  refine pc w0x238 ?_
  refine pc w0x240 ?_
  refine pc w0x242 ?_
  refine pc w0x244 ?_
  refine pc w0x246 ?_
  refine pc w0x248 ?_
  refine pc w0x250 ?_
  refine pc w0x252 ?_
  refine pc w0x254 ?_
  refine pc w0x256 ?_
  refine pc w0x258 ?_
  refine pc w0x260 ?_
  refine pc w0x262 ?_
  refine pc w0x264 ?_
  refine pc w0x266 ?_
  refine pc w0x268 ?_
  refine pc w0x270 ?_
  refine pc w0x272 ?_
  refine pc w0x274 ?_
  refine pc w0x276 ?_
  refine pc w0x278 ?_
  refine pc w0x280 ?_
  refine pc w0x282 ?_
  refine pc w0x284 ?_
  refine pc w0x286 ?_
  refine pc w0x288 ?_
  refine pc w0x290 ?_
  refine pc w0x292 ?_
  refine pc w0x294 ?_
  refine pc w0x296 ?_
  refine pc w0x298 ?_
  refine pc w0x300 ?_
  refine pc w0x302 ?_
  refine pc w0x304 ?_
  refine pc w0x306 ?_
  refine pc w0x308 ?_
  refine pc w0x310 ?_
  refine pc w0x312 ?_
  refine pc w0x314 ?_
  refine pc w0x316 ?_
  refine pc w0x318 ?_
  refine pc w0x320 ?_
  refine pc w0x322 ?_
  refine pc w0x324 ?_
  refine pc w0x326 ?_
  refine pc w0x328 ?_
  refine pc w0x330 ?_
  refine pc w0x332 ?_
  refine pc w0x334 ?_
  refine pc w0x336 ?_
  refine pc w0x338 ?_
  refine pc w0x340 ?_
  refine pc w0x342 ?_
  refine pc w0x344 ?_
  refine pc w0x346 ?_
  refine pc w0x348 ?_
  refine pc w0x350 ?_
  refine pc w0x352 ?_
  refine pc w0x354 ?_
  refine pc w0x356 ?_
  refine pc w0x358 ?_
  refine pc w0x360 ?_
  refine pc w0x362 ?_
  refine pc w0x364 ?_
  refine pc w0x366 ?_
  refine pc w0x368 ?_
  refine pc w0x370 ?_
  refine pc w0x372 ?_
  refine pc w0x374 ?_
  refine pc w0x376 ?_
  refine pc w0x378 ?_
  refine pc w0x380 ?_
  refine pc w0x382 ?_
  refine pc w0x384 ?_
  refine pc w0x386 ?_
  refine pc w0x388 ?_
  refine pc w0x390 ?_
  refine pc w0x392 ?_
  refine pc w0x394 ?_
  refine pc w0x396 ?_
  refine pc w0x398 ?_
  refine pc w0x400 ?_
  refine pc w0x402 ?_
  refine pc w0x404 ?_
  refine pc w0x406 ?_
  refine pc w0x408 ?_
  refine pc w0x410 ?_
  refine pc w0x412 ?_
  refine pc w0x414 ?_
  refine pc w0x416 ?_
  refine pc w0x418 ?_
  refine pc w0x420 ?_
  refine pc w0x422 ?_
  refine pc w0x424 ?_
  refine pc w0x426 ?_
  refine pc w0x428 ?_
  refine pc w0x430 ?_
  refine pc w0x432 ?_
  refine pc w0x434 ?_
  refine pc w0x436 ?_
  refine pc w0x438 ?_
  refine pc w0x440 ?_
  refine pc w0x442 ?_
  refine pc w0x444 ?_
  refine pc w0x446 ?_
  refine pc w0x448 ?_
  refine pc w0x450 ?_
  refine pc w0x452 ?_
  intro j h1 h2 _
  exact absurd h2 (Nat.not_lt.2 h1)
set_option maxRecDepth 100000 in
theorem all (j : Nat) (h : j < 454) (h15 : j ≠ 15) : tal.atP j = true := all' j (Nat.zero_le _) h h15
set_option maxRecDepth 100000 in
theorem all15 : ∀ i : Nat, i < 16 → at15 i = true
  | 0, _ => v15x0
  | 1, _ => v15x1
  | 2, _ => v15x2
  | 3, _ => v15x3
  | 4, _ => v15x4
  | 5, _ => v15x5
  | 6, _ => v15x6
  | 7, _ => v15x7
  | 8, _ => v15x8
  | 9, _ => v15x9
  | 10, _ => v15x10
  | 11, _ => v15x11
  | 12, _ => v15x12
  | 13, _ => v15x13
  | 14, _ => v15x14
  | 15, _ => v15x15
  | i + 16, h => by omega

def casesS : List Cas := tal.casesP.take 15 ++ (List.range 16).map (fun i => Cb.bits 0 0xFFFF (0xE8B0 + i)) ++ tal.casesP.drop 16
set_option maxRecDepth 100000 in
theorem covS : pxT sgV (anyT (casesS.map Cas.cond)) tal.knB (fun _ => true) = true := by kernel_rfl
set_option maxRecDepth 100000 in
theorem atS {c : Cas} (hc : c ∈ casesS) : px2 (rd.tree Rd.widT cxs' widS 3000 38 tal.pat3 (.var 1) c) tal.knB = true := by
  have nth : ∀ (j : Nat) (hj : j < tal.casesP.length), j ≠ 15 → px2 (rd.tree Rd.widT cxs' widS 3000 38 tal.pat3 (.var 1) tal.casesP[j]) tal.knB = true := fun j hj hn => by
    have := all j (by rw [tal.lenP] at hj; exact hj) hn
    rw [tal.atP, tal.nthP, List.getD, List.getElem?_eq_getElem hj, Option.getD_some] at this
    exact this
  unfold casesS at hc
  rcases List.mem_append.1 hc with hc | hc
  · rcases List.mem_append.1 hc with hc | hc
    · obtain ⟨j, hj, rfl⟩ := List.getElem_of_mem hc
      rw [List.getElem_take]
      rw [List.length_take] at hj
      exact nth j (by omega) (by omega)
    · obtain ⟨i, hi, rfl⟩ := List.mem_map.1 hc
      exact all15 i (List.mem_range.1 hi)
  · obtain ⟨j, hj, rfl⟩ := List.getElem_of_mem hc
    rw [List.getElem_drop]
    rw [List.length_drop] at hj
    exact nth (16 + j) (by omega) (by omega)
end Go.Proofs.YtnpfihlaocpcfaaGreatDoor.tpd

namespace Go.Proofs.YtnpfihlaocpcfaaGreatDoor
open Go.Sx Go.ChangeShapes Go.WideShapes Go.RowKit Go.Joins Go.Deep
set_option maxRecDepth 100000 in
theorem tal_rd2 {a b : Int} (ha : Hw a) (hb : Hw b) (it : Bool) : ∃ p, DecP 38 [.int .i64 a, .int .i64 b, .bool it] p ∧ (p.2 = true → Rd.Reads F2 Rd.widT p.1.scs a b) := by
  have so := sgV_ok (ρ := envOf F2 (scsT a b it)) F2_signs rfl
  have S := knBT ha hb it
  obtain ⟨c, hc, hcond⟩ := cas_cov so S tpd.covS
  have hgo := tpd.atS hc
  obtain ⟨sg', so', hgo⟩ := px2_ok (ρ := envOf F2 (scsT a b it)) F2_signs rfl hgo
  exact rd_ok cxsok' rfl rfl (widS_ok (scsT_ok ha.has hb.has it) rfl) widS_body (scsT_ok ha.has hb.has it) (by kernel_rfl) (by intro v hv; simp [tal.pat3] at hv; rcases hv with rfl | rfl | rfl <;> rfl) rfl hcond so' S hgo
    (fun i hi => by match i, hi with | k + 11, _ => rfl) rfl rfl
end Go.Proofs.YtnpfihlaocpcfaaGreatDoor
/- For the seat: decode.Decode at any halfwords, as a function of them. -/
namespace Go.Proofs.YtnpfihlaocpcfaaGreatDoor
open Go.Sx Go.ChangeShapes Go.WideShapes Go.RowKit Go.Joins Go.Deep

/-- The halfwords that are looked at. -/
abbrev HwD (a : Int) : Prop := Hw a
set_option maxRecDepth 100000 in
theorem hwD_has {a : Int} (h : HwD a) : kHas .i64 a := Hw.has h
def ShoP (a : Int) (it : Bool) (p : Fields × Bool) : Prop := DecP 37 [.int .i64 a, .bool it] p ∧ (p.2 = true → Rd.Reads F2 Rd.narT p.1.scs a 0)
def TalP (a b : Int) (it : Bool) (p : Fields × Bool) : Prop := DecP 38 [.int .i64 a, .int .i64 b, .bool it] p ∧ (p.2 = true → Rd.Reads F2 Rd.widT p.1.scs a b)
set_option maxRecDepth 100000 in
theorem sho_any {a : Int} (ha : HwD a) (it : Bool) : ∃ p, ShoP a it p := sho_rd (fun j hj => spd.all j (by rw [sho.len] at hj; exact hj)) ha it
set_option maxRecDepth 100000 in
theorem tal_any {a b : Int} (ha : HwD a) (hb : HwD b) (it : Bool) : ∃ p, TalP a b it p := tal_rd2 ha hb it

open Classical in
/-- What a halfword is read as. -/
noncomputable def shortOf (a : Int) (it : Bool) : Fields × Bool := if h : ∃ p, ShoP a it p then Classical.choose h else (zeroF, false)
open Classical in
/-- What two halfwords are read as. -/
noncomputable def tallOf (a b : Int) (it : Bool) : Fields × Bool := if h : ∃ p, TalP a b it p then Classical.choose h else (zeroF, false)
set_option maxRecDepth 100000 in
theorem shortOf_all {a : Int} (ha : HwD a) (it : Bool) : ShoP a it (shortOf a it) := by
  unfold shortOf
  rw [dif_pos (sho_any ha it)]
  exact Classical.choose_spec (sho_any ha it)
set_option maxRecDepth 100000 in
theorem tallOf_all {a b : Int} (ha : HwD a) (hb : HwD b) (it : Bool) : TalP a b it (tallOf a b it) := by
  unfold tallOf
  rw [dif_pos (tal_any ha hb it)]
  exact Classical.choose_spec (tal_any ha hb it)
set_option maxRecDepth 100000 in
theorem shortOf_ok {a : Int} (ha : HwD a) (it : Bool) : DecP 37 [.int .i64 a, .bool it] (shortOf a it) := (shortOf_all ha it).1
set_option maxRecDepth 100000 in
theorem tallOf_ok {a b : Int} (ha : HwD a) (hb : HwD b) (it : Bool) : DecP 38 [.int .i64 a, .int .i64 b, .bool it] (tallOf a b it) := (tallOf_all ha hb it).1

def pickD (p : Fields × Bool) (n : Int) : Fields × Int × Int := (if p.2 then p.1 else zeroF, if p.2 then n else 0, if p.2 then 0 else 10)
/-- What halfwords are read as: the first instruction, how many halfwords, the error's number. -/
noncomputable def decOf : List Int → Bool → Fields × Int × Int
  | [], _ => (zeroF, 0, 2)
  | [a], it => if longB a then (zeroF, 0, 2) else pickD (shortOf a it) 1
  | a :: b :: _, it => if longB a then pickD (tallOf a b it) 2 else pickD (shortOf a it) 1

set_option maxRecDepth 100000 in
theorem decOf_one (a : Int) (it : Bool) : decOf [a] it = if longB a then (zeroF, 0, 2) else pickD (shortOf a it) 1 := rfl
set_option maxRecDepth 100000 in
theorem decOf_two (a b : Int) (r : List Int) (it : Bool) : decOf (a :: b :: r) it = if longB a then pickD (tallOf a b it) 2 else pickD (shortOf a it) 1 := rfl

set_option maxRecDepth 100000 in
theorem dec_any (l : List Int) (A : Option Addr) (cap : Nat) (it : Bool) (w : World) (h : IAt w w.heap.size A l) (hl : ∀ a ∈ l, HwD a) (hlen : l.length ≤ maxLen) (hw : Laid w) :
    Calls Tryz.prog 26 #[.slice A l.length cap, .bool it] w fun e w' => RetD (decOf l it).1 (decOf l it).2.1 (decOf l it).2.2 e w w' := by
  match l, h, hl, hlen with
  | [], _, _, _ => exact dec_nil A cap it w
  | a :: r, h, hl, hlen =>
    have ha := hl a (by simp)
    have hL := long_ans (hwD_has ha)
    have hS := (shortOf_ok ha it).ans
    cases hlb : longB a
    · rw [hlb] at hL
      have e : decOf (a :: r) it = pickD (shortOf a it) 1 := by
        cases r
        · rw [decOf_one, hlb]; rfl
        · rw [decOf_two, hlb]; rfl
      rw [e]
      exact dec_short a r it A cap w h hlen hw hL _ _ _ _ _ _ _ _ _ _ hS
    · rw [hlb] at hL
      match r, h, hl, hlen with
      | [], h, _, _ =>
        have e : decOf [a] it = (zeroF, 0, 2) := by rw [decOf_one, hlb]; rfl
        rw [e]
        exact dec_end a it A cap w h hw hL
      | b :: r, h, hl, hlen =>
        have e : decOf (a :: b :: r) it = pickD (tallOf a b it) 2 := by rw [decOf_two, hlb]; rfl
        rw [e]
        exact dec_long a b r it A cap w h hlen hw hL _ _ _ _ _ _ _ _ _ _ hS _ _ _ _ _ _ _ _ _ _ (tallOf_ok ha (hl b (by simp)) it).ans

set_option maxRecDepth 100000 in
theorem pickD_ok {p : Fields × Bool} (n : Int) (h : p.1.Ok) : (pickD p n).1.Ok := by
  unfold pickD
  by_cases hp : p.2 <;> simp only [hp]
  · exact h
  · exact zeroF_ok

set_option maxRecDepth 100000 in
theorem pickD_num {p : Fields × Bool} {n : Int} (h : (pickD p n).2.2 = 0) : (pickD p n).2.1 = n ∧ p.2 = true ∧ (pickD p n).1 = p.1 := by
  unfold pickD at h ⊢
  by_cases hp : p.2 <;> simp [hp] at h ⊢

set_option maxRecDepth 100000 in
/-- An instruction that is read has fields of 64 bits. -/
theorem decOf_ok {l : List Int} (hl : ∀ a ∈ l, HwD a) (it : Bool) : (decOf l it).1.Ok := by
  match l, hl with
  | [], _ => exact zeroF_ok
  | [a], hl =>
    rw [decOf_one]
    split
    · exact zeroF_ok
    · exact pickD_ok _ (shortOf_ok (hl a (by simp)) it).ok
  | a :: b :: r, hl =>
    rw [decOf_two]
    split
    · exact pickD_ok _ (tallOf_ok (hl a (by simp)) (hl b (by simp)) it).ok
    · exact pickD_ok _ (shortOf_ok (hl a (by simp)) it).ok

set_option maxRecDepth 100000 in
/-- It is of one halfword or two, and there are so many. -/
theorem decOf_num {l : List Int} {it : Bool} (h : (decOf l it).2.2 = 0) : ∃ n : Nat, (decOf l it).2.1 = n ∧ 1 ≤ n ∧ n ≤ l.length ∧ n ≤ 2 := by
  match l with
  | [] => exact absurd (show (2 : Int) = 0 from h) (by decide)
  | [a] =>
    rw [decOf_one] at h ⊢
    split at h
    · exact absurd (show (2 : Int) = 0 from h) (by decide)
    · rename_i hb
      rw [if_neg hb]
      exact ⟨1, (pickD_num h).1, by omega, by simp, by omega⟩
  | a :: b :: r =>
    rw [decOf_two] at h ⊢
    split at h
    · rename_i hb
      rw [if_pos hb]
      exact ⟨2, (pickD_num h).1, by omega, by simp, by omega⟩
    · rename_i hb
      rw [if_neg hb]
      exact ⟨1, (pickD_num h).1, by omega, by simp, by omega⟩

end Go.Proofs.YtnpfihlaocpcfaaGreatDoor
/- For the seat: the row of instructions that halfwords are read as; what a round of the range over them keeps. -/
namespace Go.Proofs.YtnpfihlaocpcfaaGreatDoor
open Go.Sx Go.ChangeShapes Go.WideShapes Go.RowKit Go.Joins Go.Deep

/-- Is it within a block? -/
def itB (it : Int) : Bool := bits BinOp.and IntKind.i64 it 15 != 0

/-- The instructions from a place on, and their places; fuel: how many halfwords are left at most. -/
noncomputable def strm (l : List Int) : Nat → Nat → Int → List (Nat × Fields)
  | 0, _, _ => []
  | f + 1, k, it => if k < l.length ∧ (decOf (l.drop k) (itB it)).2.2 = 0 then (k, (decOf (l.drop k) (itB it)).1) :: strm l f (k + (decOf (l.drop k) (itB it)).2.1.toNat) (aftI it (decOf (l.drop k) (itB it)).1) else []

set_option maxRecDepth 100000 in
theorem strm_fuel (l : List Int) : ∀ (f g k : Nat) (it : Int), l.length ≤ f + k → l.length ≤ g + k → strm l f k it = strm l g k it
  | 0, 0, _, _, _, _ => rfl
  | 0, g + 1, k, it, h, _ => by simp [strm, show ¬ k < l.length by omega]
  | f + 1, 0, k, it, _, h => by simp [strm, show ¬ k < l.length by omega]
  | f + 1, g + 1, k, it, h, h' => by
    unfold strm
    split
    · rename_i hc
      obtain ⟨n, hn, h1, _⟩ := decOf_num hc.2
      rw [hn, Int.toNat_natCast, strm_fuel l f g (k + n) _ (by omega) (by omega)]
    · rfl

/-- All of them. -/
noncomputable def strmA (l : List Int) (k : Nat) (it : Int) : List (Nat × Fields) := strm l l.length k it
set_option maxRecDepth 100000 in
theorem strmA_stop {l : List Int} {k : Nat} {it : Int} (h : ¬ (k < l.length ∧ (decOf (l.drop k) (itB it)).2.2 = 0)) : strmA l k it = [] := by
  unfold strmA
  cases hl : l.length with
  | zero => rfl
  | succ n => rw [strm, if_neg h]
set_option maxRecDepth 100000 in
theorem strmA_go {l : List Int} {k n : Nat} {it : Int} (h : k < l.length) (he : (decOf (l.drop k) (itB it)).2.2 = 0) (hn : (decOf (l.drop k) (itB it)).2.1 = n) :
    strmA l k it = (k, (decOf (l.drop k) (itB it)).1) :: strmA l (k + n) (aftI it (decOf (l.drop k) (itB it)).1) := by
  unfold strmA
  obtain ⟨m, hm⟩ : ∃ m, l.length = m + 1 := ⟨l.length - 1, by omega⟩
  obtain ⟨n', hn', h1, _⟩ := decOf_num he
  have : n' = n := by rw [hn'] at hn; exact_mod_cast hn
  subst this
  rw [hm, strm, if_pos ⟨h, he⟩, hn, Int.toNat_natCast, strm_fuel l m (m + 1) _ _ (by omega) (by omega)]
set_option maxRecDepth 100000 in
theorem strm_len (l : List Int) : ∀ (f k : Nat) (it : Int), (strm l f k it).length ≤ f
  | 0, _, _ => Nat.le_refl _
  | f + 1, k, it => by
    unfold strm
    split
    · have := strm_len l f (k + (decOf (l.drop k) (itB it)).2.1.toNat) (aftI it (decOf (l.drop k) (itB it)).1)
      simp only [List.length_cons]; omega
    · simp

/-! ### What a round keeps -/

/-- A row of one of two boxes. -/
def RowOf (n₀ : Nat) (W : World) (g : Nat) : Prop := ∃ B v, (B = n₀ ∨ B = n₀ + 1) ∧ W.cell? ⟨B, 0, none⟩ = some v ∧ v.ownBlock = some g
/-- A block that is no row of two instructions or of places. -/
def Small (o : Obj) : Prop := ∃ cs t fz, o = .cells cs t fz ∧ t ≠ 3 ∧ cs.size < 18

structure Kp (n₀ : Nat) (W W' : World) : Prop where
  low : Below n₀ W W'
  keep : ∀ b o, b ≠ n₀ → b ≠ n₀ + 1 → W.heap[b]? = some o → Small o → ¬ RowOf n₀ W b → W'.heap[b]? = some o
  rows : ∀ g, RowOf n₀ W' g → RowOf n₀ W g ∨ W.heap.size ≤ g ∨ g = n₀ ∨ g = n₀ + 1 ∨ ∃ o, W.heap[g]? = some o ∧ ¬ Small o
  lt : (∀ g, RowOf n₀ W g → g < W.heap.size) → ∀ g, RowOf n₀ W' g → g < W'.heap.size

set_option maxRecDepth 100000 in
theorem Kp.trans {n₀ : Nat} {A B C : World} (h : Kp n₀ A B) (k : Kp n₀ B C) : Kp n₀ A C := by
  refine ⟨h.low.trans k.low, ?_, ?_, fun hl => k.lt (h.lt hl)⟩
  · intro b o h0 h1 ho hs hn
    refine k.keep b o h0 h1 (h.keep b o h0 h1 ho hs hn) hs fun hr => ?_
    rcases h.rows b hr with e | e | e | e | ⟨o', e1, e2⟩
    · exact hn e
    · have := (Array.getElem?_eq_some_iff.1 ho).1; omega
    · exact h0 e
    · exact h1 e
    · rw [ho] at e1; cases e1; exact e2 hs
  · intro g hr
    rcases k.rows g hr with e | e | e | e | ⟨o, e1, e2⟩
    · exact h.rows g e
    · exact .inr (.inl (Nat.le_trans h.low.size e))
    · exact .inr (.inr (.inl e))
    · exact .inr (.inr (.inr (.inl e)))
    · by_cases h0 : g = n₀
      · exact .inr (.inr (.inl h0))
      by_cases h1 : g = n₀ + 1
      · exact .inr (.inr (.inr (.inl h1)))
      by_cases hg : g < A.heap.size
      · have ho : A.heap[g]? = some A.heap[g] := Array.getElem?_eq_getElem hg
        by_cases hs : Small A.heap[g]
        · by_cases hR : RowOf n₀ A g
          · exact .inl hR
          · have := h.keep g _ h0 h1 ho hs hR
            rw [e1] at this
            cases this
            exact absurd hs e2
        · exact .inr (.inr (.inr (.inr ⟨_, ho, hs⟩)))
      · exact .inr (.inl (by omega))

set_option maxRecDepth 100000 in
theorem RowOf.same {n₀ : Nat} {W W' : World} (h : ∀ B, B = n₀ ∨ B = n₀ + 1 → W'.cell? ⟨B, 0, none⟩ = W.cell? ⟨B, 0, none⟩) (g : Nat) : RowOf n₀ W' g ↔ RowOf n₀ W g :=
  ⟨fun ⟨B, v, hB, hv, ho⟩ => ⟨B, v, hB, (h B hB).symm.trans hv, ho⟩, fun ⟨B, v, hB, hv, ho⟩ => ⟨B, v, hB, (h B hB).trans hv, ho⟩⟩

/-- All rows are there. -/
def RowsLt (n₀ : Nat) (W : World) : Prop := ∀ g, RowOf n₀ W g → g < W.heap.size

set_option maxRecDepth 100000 in
/-- What leaves all that was there alone. -/
theorem Kp.of_below {n₀ : Nat} {W W' : World} (hn : n₀ + 2 ≤ W.heap.size) (h : Below W.heap.size W W') : Kp n₀ W W' := by
  have same := RowOf.same (n₀ := n₀) (W := W) (W' := W') (fun B hB => h.cell (p := ⟨B, 0, none⟩) (by show B < W.heap.size; rcases hB with rfl | rfl <;> omega))
  refine ⟨h.mono (by omega), ?_, ?_, ?_⟩
  · intro b o _ _ ho _ _
    rw [h.block b (Array.getElem?_eq_some_iff.1 ho).1]
    exact ho
  · intro g hg
    exact .inl ((same g).1 hg)
  · intro hl g hg
    exact Nat.lt_of_lt_of_le (hl g ((same g).1 hg)) h.size

set_option maxRecDepth 100000 in
theorem Kp.rowsLt {n₀ : Nat} {W W' : World} (h : Kp n₀ W W') (hr : RowsLt n₀ W) : RowsLt n₀ W' := h.lt hr

set_option maxRecDepth 100000 in
theorem kp_put {n₀ D : Nat} (hn : n₀ + 2 ≤ D) (W : World) (l : Nat) (o o' : Obj) (hl : D ≤ l) (h : W.heap[l]? = some o) (hc : o.isCells = false) : Kp n₀ W (W.putObj l o') := by
  have hg := grownBy_putObj' W l o'
  have oth : ∀ k, k < W.heap.size → k ≠ l → (W.putObj l o').heap[k]? = W.heap[k]? := fun k hk hne => hg.block k hk (fun e => hne (by cases e; rfl))
  have hll := (Array.getElem?_eq_some_iff.1 h).1
  have same := RowOf.same (n₀ := n₀) (W := W) (W' := W.putObj l o') (fun B hB => World.cell?_of_block (oth B (by show B < W.heap.size; rcases hB with rfl | rfl <;> omega) (by rcases hB with rfl | rfl <;> omega)))
  refine ⟨⟨hg.os, hg.tape, hg.output, hg.size, fun k hk => oth k (by omega) (by omega)⟩, ?_, ?_, ?_⟩
  · intro b ob _ _ hb hs _
    by_cases e : b = l
    · subst e
      rw [h] at hb
      cases hb
      obtain ⟨cs, t, fz, rfl, _⟩ := hs
      simp [Obj.isCells] at hc
    · rw [oth b (Array.getElem?_eq_some_iff.1 hb).1 e]
      exact hb
  · intro g hgr
    exact .inl ((same g).1 hgr)
  · intro hl g hgr
    exact Nat.lt_of_lt_of_le (hl g ((same g).1 hgr)) hg.size

set_option maxRecDepth 100000 in
theorem laid_low {n₀ : Nat} {W W' : World} (h : Laid W) (hb : Below n₀ W W') (hn : 0 < n₀) : Laid W' := by
  obtain ⟨t, fz, hw⟩ := h
  exact ⟨t, fz, by rw [hb.block 0 hn]; exact hw⟩

set_option maxRecDepth 100000 in
theorem InsAt.of_block {W : World} {b : Nat} {x : Fields} {t : TypeId} (h : W.heap[b]? = some (.cells x.cells t (0, 0))) : InsAt W b x := by
  have c : ∀ o, W.cell? ⟨b, o, none⟩ = x.cells[o]? := fun o => by simp only [World.cell?, h]; rfl
  have f : ∀ o, W.frozen? ⟨b, o, none⟩ = false := fun o => by simp only [World.frozen?, h]; simp
  exact ⟨⟨by rw [c]; rfl, by rw [c]; rfl, by rw [c]; rfl, by rw [c]; rfl, by rw [c]; rfl, by rw [c]; rfl, by rw [c]; rfl, by rw [c]; rfl, by rw [c]; rfl⟩, f 0, f 1, f 2, f 3, f 4, f 5, f 6, f 7, f 8⟩

set_option maxRecDepth 100000 in
theorem grown_of_below {W W' : World} (h : Below W.heap.size W W') : W.grownBy W' none := ⟨h.os, h.tape, h.output, h.size, fun k hk _ => h.block k hk⟩

end Go.Proofs.YtnpfihlaocpcfaaGreatDoor
/- For the seat: two rows of numbers compared; two instructions compared. -/
namespace Go.Proofs.YtnpfihlaocpcfaaGreatDoor
open Go.Sx Go.ChangeShapes Go.WideShapes Go.RowKit Go.Joins Go.Deep

instance : DecidableEq Fields := fun x y =>
  decidable_of_iff (x.x0 = y.x0 ∧ x.x1 = y.x1 ∧ x.x2 = y.x2 ∧ x.x3 = y.x3 ∧ x.x4 = y.x4 ∧ x.x5 = y.x5 ∧ x.x6 = y.x6 ∧ x.x7 = y.x7 ∧ x.b = y.b) (by cases x; cases y; simp)
set_option maxRecDepth 100000 in
theorem take_snoc {α : Type} {l m : List α} {i : Nat} (h : l.take i = m.take i) (hl : i < l.length) (hm : i < m.length) (e : l[i] = m[i]) : l.take (i + 1) = m.take (i + 1) := by
  rw [List.take_succ_eq_append_getElem hl, List.take_succ_eq_append_getElem hm, h, e]

set_option maxRecDepth 100000 in
theorem below_drewN {b n : Nat} {w w' : World} (h : Below b w w') : Below b w (w'.drewN n) := ⟨h.os, h.tape, h.output, h.size, h.block⟩


/-- A slice's address, below block B, where such instructions lie. -/
def FAt (w : World) (B : Nat) (A : Option Addr) (l : List Fields) : Prop :=
  l ≠ [] → ∃ g off, A = some ⟨g, off, none⟩ ∧ g < B ∧ ∀ (i : Nat) (x : Fields), l[i]? = some x → ∀ (j : Nat) (v : Value), x.cells[j]? = some v → w.cell? ⟨g, off + i * 9 + j, none⟩ = some v
set_option maxRecDepth 100000 in
theorem FAt.keep {w w' : World} {B : Nat} {A : Option Addr} {l : List Fields} (h : FAt w B A l) (hk : ∀ p : Addr, p.block < B → ∀ v, w.cell? p = some v → w'.cell? p = some v) : FAt w' B A l := by
  intro hn
  obtain ⟨g, off, e, hb, hc⟩ := h hn
  exact ⟨g, off, e, hb, fun i x hx j v hv => hk _ hb _ (hc i x hx j v hv)⟩
set_option maxRecDepth 100000 in
theorem FAt.below {w w' : World} {B B' : Nat} {A : Option Addr} {l : List Fields} (h : FAt w B A l) (hb : Below B' w w') (hB : B ≤ B') : FAt w' B A l := h.keep fun _ hp _ e => (hb.cell (by omega)).trans e
set_option maxRecDepth 100000 in
theorem FAt.more {w : World} {B B' : Nat} {A : Option Addr} {l : List Fields} (h : FAt w B A l) (hB : B ≤ B') : FAt w B' A l := by
  intro hn
  obtain ⟨g, off, e, hb, hc⟩ := h hn
  exact ⟨g, off, e, by omega, hc⟩
set_option maxRecDepth 100000 in
theorem FAt.at_ {w : World} {B : Nat} {A : Option Addr} {l : List Fields} (h : FAt w B A l) {k : Nat} (hk : k < l.length) :
    ∃ g off, A = some ⟨g, off, none⟩ ∧ g < B ∧ ∀ (j : Nat) (v : Value), l[k].cells[j]? = some v → w.cell? ⟨g, off + k * 9 + j, none⟩ = some v := by
  obtain ⟨g, off, e, hb, hc⟩ := h (by intro e; subst e; simp at hk)
  exact ⟨g, off, e, hb, fun j v hv => hc k l[k] (List.getElem?_eq_getElem hk) j v hv⟩

namespace eqi
def X : SVal := .agg (.ofList [.int .i64 (.var 0), .int .i64 (.var 1), .int .i64 (.var 2), .int .i64 (.var 3), .int .i64 (.var 4), .int .i64 (.var 5), .int .i64 (.var 6), .int .i64 (.var 7), .bool (.var 8)])
def Y : SVal := .agg (.ofList [.int .i64 (.var 9), .int .i64 (.var 10), .int .i64 (.var 11), .int .i64 (.var 12), .int .i64 (.var 13), .int .i64 (.var 14), .int .i64 (.var 15), .int .i64 (.var 16), .bool (.var 17)])
def q (i : Nat) : Tm := .op2 .eq (.var i) (.var (i + 9))
def c : Tm := .op2 .band (q 0) (.op2 .band (q 1) (.op2 .band (q 2) (.op2 .band (q 3) (.op2 .band (q 4) (.op2 .band (q 5) (.op2 .band (q 6) (.op2 .band (q 7) (.op2 .beq (.var 8) (.var 17)))))))))
set_option maxRecDepth 100000 in
theorem run : eqT cx 20 30 X Y = some c := by kernel_rfl
end eqi

def eqB (x y : Fields) : Bool := decide (x = y)
set_option maxRecDepth 100000 in
theorem eqB_yes {x y : Fields} (h : x = y) : eqB x y = true := by unfold eqB; exact decide_eq_true h
set_option maxRecDepth 100000 in
theorem eqB_no {x y : Fields} (h : ¬ x = y) : eqB x y = false := by unfold eqB; exact decide_eq_false h
set_option maxRecDepth 100000 in
/-- Two instructions compared. -/
theorem ins_equal (w : World) (x0 x1 x2 x3 x4 x5 x6 x7 : Int) (xb : Bool) (y0 y1 y2 y3 y4 y5 y6 y7 : Int) (yb : Bool) :
    (Op.equalIn 10000 30 (.agg #[.int .i64 x0, .int .i64 x1, .int .i64 x2, .int .i64 x3, .int .i64 x4, .int .i64 x5, .int .i64 x6, .int .i64 x7, .bool xb]) (.agg #[.int .i64 y0, .int .i64 y1, .int .i64 y2, .int .i64 y3, .int .i64 y4, .int .i64 y5, .int .i64 y6, .int .i64 y7, .bool yb])).run Tryz.prog w =
      .ok (eqB ⟨x0, x1, x2, x3, x4, x5, x6, x7, xb⟩ ⟨y0, y1, y2, y3, y4, y5, y6, y7, yb⟩) w := by
  have h := run_eqT (ρ := envOf F2 [.int x0, .int x1, .int x2, .int x3, .int x4, .int x5, .int x6, .int x7, .bool xb, .int y0, .int y1, .int y2, .int y3, .int y4, .int y5, .int y6, .int y7, .bool yb]) (ι := ι0) w cxok 20 10000 (by decide) eqi.run
  refine Eq.trans h ?_
  congr 1
  show ((x0 == y0) && ((x1 == y1) && ((x2 == y2) && ((x3 == y3) && ((x4 == y4) && ((x5 == y5) && ((x6 == y6) && ((x7 == y7) && (xb == yb))))))))) = _
  unfold eqB
  rw [Bool.eq_iff_iff]
  simp only [Bool.and_eq_true, beq_iff_eq, decide_eq_true_eq, Fields.mk.injEq]
set_option maxRecDepth 100000 in
theorem ins_guard (op : BinOp) (x y : Operand) (xs ys : Array Value) (w : World) : (eqGuard op 30 x y (.agg xs) (.agg ys)).run Tryz.prog w = .ok () w := run_eqGuard_agg w op _ x y _ _ (by kernel_rfl)

set_option maxRecDepth 100000 in
theorem iat_new (w : World) (t : TypeId) (l : List Int) : IAt (w.alloc (.cells (encI l).toArray t)) (w.alloc (.cells (encI l).toArray t)).heap.size (some ⟨w.heap.size, 0, none⟩) l := by
  intro _
  refine ⟨_, _, rfl, by simp, fun i a hi => ?_⟩
  have h : (w.alloc (.cells (encI l).toArray t)).heap[w.heap.size]? = some (.cells (encI l).toArray t (0, 0)) := heap_alloc_new w _
  simp only [World.cell?, h, Nat.zero_add]
  simp [encI, hi]
/-- An instruction of a row, at its place. -/
def InsIn (W : World) (g o : Nat) (x : Fields) : Prop := W.cell? ⟨g, o, none⟩ = some (.int .i64 x.x0) ∧ W.cell? ⟨g, o + 1, none⟩ = some (.int .i64 x.x1) ∧ W.cell? ⟨g, o + 2, none⟩ = some (.int .i64 x.x2) ∧ W.cell? ⟨g, o + 3, none⟩ = some (.int .i64 x.x3) ∧ W.cell? ⟨g, o + 4, none⟩ = some (.int .i64 x.x4) ∧ W.cell? ⟨g, o + 5, none⟩ = some (.int .i64 x.x5) ∧ W.cell? ⟨g, o + 6, none⟩ = some (.int .i64 x.x6) ∧ W.cell? ⟨g, o + 7, none⟩ = some (.int .i64 x.x7) ∧ W.cell? ⟨g, o + 8, none⟩ = some (.bool x.b)
set_option maxRecDepth 100000 in
theorem insIn_of {W : World} {g o : Nat} {x : Fields} (h : ∀ (j : Nat) (v : Value), x.cells[j]? = some v → W.cell? ⟨g, o + j, none⟩ = some v) : InsIn W g o x :=
  ⟨h 0 _ rfl, h 1 _ rfl, h 2 _ rfl, h 3 _ rfl, h 4 _ rfl, h 5 _ rfl, h 6 _ rfl, h 7 _ rfl, h 8 _ rfl⟩
set_option maxRecDepth 100000 in
theorem InsIn.below {W W' : World} {B g o : Nat} {x : Fields} (h : InsIn W g o x) (hb : Below B W W') (hg : g < B) : InsIn W' g o x := by
  unfold InsIn at h ⊢
  have e := fun o => hb.cell (p := ⟨g, o, none⟩) hg
  simp only [e]
  exact h
end Go.Proofs.YtnpfihlaocpcfaaGreatDoor
/- For the seat: images: their items, and what is asked of them: plain. -/
namespace Go.Proofs.YtnpfihlaocpcfaaGreatDoor
open Go.Sx Go.ChangeShapes Go.WideShapes Go.RowKit Go.Joins Go.Deep

/-- An item: kind, place, size, form, line, instruction, values. -/
structure Itm where
  k : Int
  a : Int
  s : Int
  f : Int
  l : Int
  x : Fields
  V : Option Addr
  vc : Nat
  vs : List Int

abbrev Itm.cells (y : Itm) : Array Value := #[.int .i64 y.k, .int .i64 y.a, .int .i64 y.s, .int .i64 y.f, .int .i64 y.l, .int .i64 y.x.x0, .int .i64 y.x.x1, .int .i64 y.x.x2, .int .i64 y.x.x3, .int .i64 y.x.x4, .int .i64 y.x.x5, .int .i64 y.x.x6, .int .i64 y.x.x7, .bool y.x.b, .slice y.V y.vs.length y.vc]
abbrev Itm.val (y : Itm) : Value := .agg y.cells

structure Itm.Ok (y : Itm) : Prop where
  k : kHas .i64 y.k
  a : kHas .i64 y.a
  s : kHas .i64 y.s
  f : kHas .i64 y.f
  l : kHas .i64 y.l
  x : y.x.Ok
  vs : ∀ v ∈ y.vs, kHas .i64 v
  len : y.vs.length ≤ maxLen
  cap : y.vs.length ≤ y.vc

/-- A slice's address, below block B, where such items lie. -/
def ItAt (w : World) (B : Nat) (A : Option Addr) (l : List Itm) : Prop :=
  (l ≠ [] → ∃ g off, A = some ⟨g, off, none⟩ ∧ g < B ∧ ∀ (i : Nat) (y : Itm), l[i]? = some y → ∀ (j : Nat) (v : Value), y.cells[j]? = some v → w.cell? ⟨g, off + i * 15 + j, none⟩ = some v) ∧
  ∀ y ∈ l, IAt w B y.V y.vs
set_option maxRecDepth 100000 in
theorem ItAt.keep {w w' : World} {B : Nat} {A : Option Addr} {l : List Itm} (h : ItAt w B A l) (hk : ∀ p : Addr, p.block < B → ∀ v, w.cell? p = some v → w'.cell? p = some v) : ItAt w' B A l := by
  refine ⟨fun hn => ?_, fun y hy => (h.2 y hy).keep hk⟩
  obtain ⟨g, off, e, hb, hc⟩ := h.1 hn
  exact ⟨g, off, e, hb, fun i x hx j v hv => hk _ hb _ (hc i x hx j v hv)⟩
set_option maxRecDepth 100000 in
theorem ItAt.below {w w' : World} {B B' : Nat} {A : Option Addr} {l : List Itm} (h : ItAt w B A l) (hb : Below B' w w') (hB : B ≤ B') : ItAt w' B A l := h.keep fun _ hp _ e => (hb.cell (by omega)).trans e
set_option maxRecDepth 100000 in
theorem ItAt.more {w : World} {B B' : Nat} {A : Option Addr} {l : List Itm} (h : ItAt w B A l) (hB : B ≤ B') : ItAt w B' A l := by
  refine ⟨fun hn => ?_, fun y hy => (h.2 y hy).more hB⟩
  obtain ⟨g, off, e, hb, hc⟩ := h.1 hn
  exact ⟨g, off, e, by omega, hc⟩
set_option maxRecDepth 100000 in
theorem ItAt.at_ {w : World} {B : Nat} {A : Option Addr} {l : List Itm} (h : ItAt w B A l) {k : Nat} (hk : k < l.length) :
    ∃ g off, A = some ⟨g, off, none⟩ ∧ g < B ∧ ∀ (j : Nat) (v : Value), l[k].cells[j]? = some v → w.cell? ⟨g, off + k * 15 + j, none⟩ = some v := by
  obtain ⟨g, off, e, hb, hc⟩ := h.1 (by intro e; subst e; simp at hk)
  exact ⟨g, off, e, hb, fun j v hv => hc k l[k] (List.getElem?_eq_getElem hk) j v hv⟩

/-- An item at its place. -/
def ItIn (W : World) (g o : Nat) (y : Itm) : Prop := W.cell? ⟨g, o, none⟩ = some (.int .i64 y.k) ∧ W.cell? ⟨g, o + 1, none⟩ = some (.int .i64 y.a) ∧ W.cell? ⟨g, o + 2, none⟩ = some (.int .i64 y.s) ∧ W.cell? ⟨g, o + 3, none⟩ = some (.int .i64 y.f) ∧ W.cell? ⟨g, o + 4, none⟩ = some (.int .i64 y.l) ∧
  W.cell? ⟨g, o + 5, none⟩ = some (.int .i64 y.x.x0) ∧ W.cell? ⟨g, o + 6, none⟩ = some (.int .i64 y.x.x1) ∧ W.cell? ⟨g, o + 7, none⟩ = some (.int .i64 y.x.x2) ∧ W.cell? ⟨g, o + 8, none⟩ = some (.int .i64 y.x.x3) ∧ W.cell? ⟨g, o + 9, none⟩ = some (.int .i64 y.x.x4) ∧ W.cell? ⟨g, o + 10, none⟩ = some (.int .i64 y.x.x5) ∧ W.cell? ⟨g, o + 11, none⟩ = some (.int .i64 y.x.x6) ∧ W.cell? ⟨g, o + 12, none⟩ = some (.int .i64 y.x.x7) ∧ W.cell? ⟨g, o + 13, none⟩ = some (.bool y.x.b) ∧
  W.cell? ⟨g, o + 14, none⟩ = some (.slice y.V y.vs.length y.vc)
set_option maxRecDepth 100000 in
theorem itIn_of {W : World} {g o : Nat} {y : Itm} (h : ∀ (j : Nat) (v : Value), y.cells[j]? = some v → W.cell? ⟨g, o + j, none⟩ = some v) : ItIn W g o y :=
  ⟨h 0 _ rfl, h 1 _ rfl, h 2 _ rfl, h 3 _ rfl, h 4 _ rfl, h 5 _ rfl, h 6 _ rfl, h 7 _ rfl, h 8 _ rfl, h 9 _ rfl, h 10 _ rfl, h 11 _ rfl, h 12 _ rfl, h 13 _ rfl, h 14 _ rfl⟩
set_option maxRecDepth 100000 in
theorem ItIn.below {W W' : World} {B g o : Nat} {y : Itm} (h : ItIn W g o y) (hb : Below B W W') (hg : g < B) : ItIn W' g o y := by
  unfold ItIn at h ⊢
  have e := fun o => hb.cell (p := ⟨g, o, none⟩) hg
  simp only [e]
  exact h
set_option maxRecDepth 100000 in
theorem itIn_new (W : World) (y : Itm) (t : TypeId) (b : Nat) (hb : b = W.heap.size) : ItIn (W.alloc (.cells y.cells t)) b 0 y := by
  subst hb
  have h : (W.alloc (.cells y.cells t)).heap[W.heap.size]? = some (.cells y.cells t (0, 0)) := heap_alloc_new W _
  refine itIn_of fun j v hv => ?_
  simp only [World.cell?, h, Nat.zero_add]
  exact hv

/-! ### What is asked -/

/-- Do items stand one behind the other, from a place on, to the end? -/
def disjB (n : Int) : Int → List Itm → Bool
  | p, [] => p == n
  | p, y :: r => if y.a = p ∧ 1 ≤ y.s ∧ y.s ≤ n - p then disjB n (p + y.s) r else false

set_option maxRecDepth 100000 in
theorem disjB_cons (n p : Int) (y : Itm) (r : List Itm) : disjB n p (y :: r) = if y.a = p ∧ 1 ≤ y.s ∧ y.s ≤ n - p then disjB n (p + y.s) r else false := rfl
set_option maxRecDepth 100000 in
/-- Where all is as it should be, the sizes make up the whole. -/
theorem disjB_sum {n : Int} : ∀ {l : List Itm} {p : Int}, disjB n p l = true → n = p + (l.map (·.s)).sum
  | [], p, h => by
    have := eq_of_beq h
    simp [this]
  | y :: r, p, h => by
    unfold disjB at h
    split at h
    · have := disjB_sum h
      simp only [List.map_cons, List.sum_cons]
      omega
    · cases h

/-- The place that an item leads to, and whether it does. -/
def leadsP (y : Itm) : Int × Bool :=
  if y.k = 1 then
    if y.x.x0 = 40 ∨ y.x.x0 = 41 then (wrap64 (bits BinOp.andNot IntKind.i64 (wrap64 (y.a + 4)) 3 + y.x.x5), true)
    else if y.x.x0 = 35 ∨ y.x.x0 = 36 ∨ y.x.x0 = 37 ∨ y.x.x0 = 38 then (wrap64 (wrap64 (y.a + 4) + y.x.x5), true)
    else (0, false)
  else (0, false)

/-- Is a place that of an item, or the end? -/
def standsB (n : Nat) (l : List Itm) (p : Int) : Bool := p == (n : Int) || l.any fun y => y.a == p

noncomputable def insB (n : Nat) (l : List Itm) (y : Itm) (s : List UInt8) (it : Int) : Bool :=
  if (decOf (unpB s) (itB it)).2.2 = 0 ∧ (decOf (unpB s) (itB it)).1 = y.x ∧ 2 * (decOf (unpB s) (itB it)).2.1 = y.s ∧ bits BinOp.and IntKind.i64 y.a 1 = 0 then
    if (leadsP y).2 = true then
      if y.x.x0 = 40 ∨ y.x.x0 = 41 then decide (0 ≤ (leadsP y).1 ∧ (leadsP y).1 ≤ (n : Int)) else standsB n l (leadsP y).1
    else true
  else false

/-- The first place of a number. -/
def indexI (l : List Int) (v : Int) : Int := match l.findIdx? (· == v) with | some i => i | none => -1

def wordB (s : List UInt8) : Int := bits BinOp.or IntKind.i64 ((unpB s).getD 0 0) (IntKind.i64.wrap ((unpB s).getD 1 0 * 65536))
def poolG (vs : List Int) (s : List UInt8) : Nat → List Int → Bool
  | _, [] => true
  | i, v :: r => if v = wordB ((s.drop (4 * i)).take 4) ∧ indexI vs v = i then poolG vs s (i + 1) r else false
def poolB (y : Itm) (s : List UInt8) : Bool :=
  if bits BinOp.and IntKind.i64 y.a 3 = 0 ∧ y.s = 4 * (y.vs.length : Int) then poolG y.vs s 0 y.vs else false

noncomputable def oneB (n : Nat) (l : List Itm) (y : Itm) (s : List UInt8) (it : Int) : Bool :=
  if y.k = 1 then insB n l y s it
  else if y.k = 4 then poolB y s
  else if y.k = 3 then s.all (· == 0)
  else true

/-- Is each item as it should be? -/
noncomputable def rangB (s : List UInt8) (l : List Itm) : Int → List Itm → Bool
  | _, [] => true
  | it, y :: r =>
    if 0 ≤ y.a ∧ y.a ≤ (s.length : Int) ∧ 0 ≤ y.s ∧ y.s ≤ (s.length : Int) - y.a then
      if oneB s.length l y ((s.drop y.a.toNat).take y.s.toNat) it = true then rangB s l (if y.k = 1 then aftI it y.x else it) r else false
    else false

end Go.Proofs.YtnpfihlaocpcfaaGreatDoor
/- For the seat: Few, Disjoint, Leads, Index: what they answer. -/
namespace Go.Proofs.YtnpfihlaocpcfaaGreatDoor
open Go.Sx Go.ChangeShapes Go.WideShapes Go.RowKit Go.Joins Go.Deep

set_option maxRecDepth 100000 in
/-- Numbers of a slice: the first place of one. -/
theorem indexI_at {l : List Int} {i : Nat} {v : Int} (hi : i < l.length) (hb : ∀ j, j < i → l[j]? ≠ some v) (h : l[i] = v) : indexI l v = i := by
  have : l.findIdx? (· == v) = some i := by
    rw [List.findIdx?_eq_some_iff_getElem]
    refine ⟨hi, by simp [h], fun j hj => ?_⟩
    have := hb j hj
    rw [List.getElem?_eq_getElem (by omega)] at this
    simpa using this
  rw [indexI, this]
set_option maxRecDepth 100000 in
theorem indexI_none {l : List Int} {v : Int} (hb : ∀ j, j < l.length → l[j]? ≠ some v) : indexI l v = -1 := by
  have : l.findIdx? (· == v) = none := by
    rw [List.findIdx?_eq_none_iff]
    intro x hx
    obtain ⟨j, hj, rfl⟩ := List.getElem_of_mem hx
    have := hb j hj
    rw [List.getElem?_eq_getElem hj] at this
    simpa using this
  rw [indexI, this]

set_option maxRecDepth 100000 in
set_option maxHeartbeats 1000000 in
theorem index_any (l : List Int) (A : Option Addr) (cap : Nat) (v : Int) (w : World) (hA : IAt w w.heap.size A l) (hl : l.length ≤ maxLen) :
    Calls Tryz.prog 30 #[.slice A l.length cap, .int .i64 v] w fun e w' => e = .returned (.int .i64 (indexI l v)) ∧ w' = w := by
  unfold maxLen at hl
  go_enter Tryz.func30, Tryz.ntmps30
  go_wp2
  go_loopw [8] (fun k wr => ∃ i : Nat, i ≤ l.length ∧ k = .int .i64 i ∧ (∀ j, j < i → l[j]? ≠ some v) ∧ wr = w) (fun k _ => l.length - (intOf k).toNat)
  case atStart => exact ⟨0, by omega, rfl, fun j hj => by omega, rfl⟩
  case round =>
    obtain ⟨i, hi, rfl, hp, rfl⟩ := hrel
    by_cases hlt : i < l.length
    · obtain ⟨g, off, rfl, hg, hc⟩ := hA.at_ hlt
      have hk0 : (0 : Int) ≤ (i : Int) := by omega
      have hkl : (i : Int) < (l.length : Int) := by omega
      by_cases he : v = l[i]
      · have hr := indexI_at hlt hp he.symm
        rw [← he] at hc
        go_wp2
        refine bodyPost_ret (results_tmp rfl _ _ _) rfl ⟨by rw [hr]; rfl, rfl⟩
      · have hq : (v == l[i]) = false := by simpa using he
        have hp' : ∀ j, j < i + 1 → l[j]? ≠ some v := fun j hj => by
          by_cases e : j = i
          · subst e; rw [List.getElem?_eq_getElem hlt]; simpa using fun e => he e.symm
          · exact hp j (by omega)
        go_wp2
        go_roundw
        case rel => exact ⟨i + 1, by omega, by go_num, hp', trivial⟩
        case measure => simp [intOf]; omega
    · have e : i = l.length := by omega
      subst e
      have hr := indexI_none hp
      go_wp2
      refine bodyPost_ret (results_tmp rfl _ _ _) rfl ⟨by rw [hr]; rfl, rfl⟩

set_option maxRecDepth 100000 in
set_option maxHeartbeats 1000000 in
theorem leads_any (y : Itm) (w : World) : Calls Tryz.prog 28 #[y.val] w fun e w' => e = .returned (.tuple #[.int .i64 (leadsP y).1, .bool (leadsP y).2]) ∧ Below w.heap.size w w' := by
  obtain ⟨k, a, s, f, l, x, V, vc, vs⟩ := y
  obtain ⟨x0, x1, x2, x3, x4, x5, x6, x7, xb⟩ := x
  unfold leadsP
  dsimp only
  go_enter Tryz.func28, Tryz.ntmps28
  have hb : Below w.heap.size w (w.alloc (.cells (Itm.cells ⟨k, a, s, f, l, ⟨x0, x1, x2, x3, x4, x5, x6, x7, xb⟩, V, vc, vs⟩) 33)) := (Below.refl _ _).alloc (Nat.le_refl _) _
  by_cases h1 : k = 1
  · subst h1
    rw [if_pos rfl]
    by_cases h40 : x0 = 40
    · subst h40
      rw [if_pos (.inl rfl)]
      go_wp2
      exact bodyPost_ret (by simp [results, Tryz.results28, go_sem]) rfl ⟨rfl, hb⟩
    by_cases h41 : x0 = 41
    · subst h41
      rw [if_pos (.inr rfl)]
      go_wp2
      exact bodyPost_ret (by simp [results, Tryz.results28, go_sem]) rfl ⟨rfl, hb⟩
    rw [if_neg (by rintro (h | h) <;> contradiction)]
    have q40 : (x0 == 40) = false := by simpa using h40
    have q41 : (x0 == 41) = false := by simpa using h41
    by_cases h35 : x0 = 35
    · subst h35
      rw [if_pos (.inl rfl)]
      go_wp2
      exact bodyPost_ret (by simp [results, Tryz.results28, go_sem]) rfl ⟨rfl, hb⟩
    have q35 : (x0 == 35) = false := by simpa using h35
    by_cases h36 : x0 = 36
    · subst h36
      rw [if_pos (.inr (.inl rfl))]
      go_wp2
      exact bodyPost_ret (by simp [results, Tryz.results28, go_sem]) rfl ⟨rfl, hb⟩
    have q36 : (x0 == 36) = false := by simpa using h36
    by_cases h37 : x0 = 37
    · subst h37
      rw [if_pos (.inr (.inr (.inl rfl)))]
      go_wp2
      exact bodyPost_ret (by simp [results, Tryz.results28, go_sem]) rfl ⟨rfl, hb⟩
    have q37 : (x0 == 37) = false := by simpa using h37
    by_cases h38 : x0 = 38
    · subst h38
      rw [if_pos (.inr (.inr (.inr rfl)))]
      go_wp2
      exact bodyPost_ret (by simp [results, Tryz.results28, go_sem]) rfl ⟨rfl, hb⟩
    have q38 : (x0 == 38) = false := by simpa using h38
    rw [if_neg (by rintro (h | h | h | h) <;> contradiction)]
    go_wp2
    exact bodyPost_ret (by simp [results, Tryz.results28, go_sem]) rfl ⟨rfl, hb⟩
  · rw [if_neg h1]
    have q1 : (k != 1) = true := by simpa using h1
    go_wp2
    exact bodyPost_ret (by simp [results, Tryz.results28, go_sem]) rfl ⟨rfl, hb⟩

set_option maxRecDepth 100000 in
set_option maxHeartbeats 2000000 in
theorem disj_any (s : ByteArray) (l : List Itm) (A : Option Addr) (cap : Nat) (w : World) (hA : ItAt w w.heap.size A l) (hl : l.length ≤ maxLen) (hs : s.size ≤ maxLen) (hk : ∀ y ∈ l, y.Ok) :
    Calls Tryz.prog 10 #[.agg #[.string s, .slice A l.length cap]] w fun e w' => e = .returned (.bool (disjB s.size 0 l)) ∧ Below w.heap.size w w' := by
  unfold maxLen at hl hs
  have b0 : Below w.heap.size w (w.alloc (.cells #[.string s, .slice A l.length cap] 24)) := (Below.refl _ _).alloc (Nat.le_refl _) _
  have c0 : (w.alloc (.cells #[.string s, .slice A l.length cap] 24)).cell? ⟨w.heap.size, 0, none⟩ = some (.string s) := by
    have h : (w.alloc (.cells #[.string s, .slice A l.length cap] 24)).heap[w.heap.size]? = some (.cells #[.string s, .slice A l.length cap] 24 (0, 0)) := heap_alloc_new w _
    simp only [World.cell?, h]; rfl
  have c01 : (w.alloc (.cells #[.string s, .slice A l.length cap] 24)).cell? ⟨w.heap.size, 1, none⟩ = some (.slice A l.length cap) := by
    have h : (w.alloc (.cells #[.string s, .slice A l.length cap] 24)).heap[w.heap.size]? = some (.cells #[.string s, .slice A l.length cap] 24 (0, 0)) := heap_alloc_new w _
    simp only [World.cell?, h]; rfl
  generalize hW : w.alloc (.cells #[.string s, .slice A l.length cap] 24) = W0 at b0 c0 c01
  have hsz : W0.heap.size = w.heap.size + 1 := by rw [← hW]; simp
  go_enter Tryz.func10, Tryz.ntmps10
  go_wp2
  go_loopw [3, 9] (fun p k wr => ∃ (i : Nat) (q : Int), i ≤ l.length ∧ k = .int .i64 i ∧ p = .int .i64 q ∧ 0 ≤ q ∧ q ≤ s.size ∧ disjB s.size 0 l = disjB s.size q (l.drop i) ∧ Below W0.heap.size W0 wr) (fun _ k _ => l.length - (intOf k).toNat)
  case atStart => exact ⟨0, 0, by omega, rfl, rfl, by omega, by omega, rfl, Below.refl _ _⟩
  case round =>
    obtain ⟨i, q, hi, rfl, rfl, hq0, hqs, hd, hbr⟩ := hrel
    have c1 : wr.cell? ⟨w.heap.size, 0, none⟩ = some (.string s) := (hbr.cell (p := ⟨w.heap.size, 0, none⟩) (by show w.heap.size < W0.heap.size; omega)).trans c0
    have hbw : Below w.heap.size w wr := b0.trans (hbr.mono (by omega))
    have hwz : w.heap.size < wr.heap.size := by have := hbr.size; omega
    by_cases hlt : i < l.length
    · obtain ⟨g, off, rfl, hg, hc⟩ := (hA.below hbw (Nat.le_refl _)).at_ hlt
      have hk0 : (0 : Int) ≤ (i : Int) := by omega
      have hkl : (i : Int) < (l.length : Int) := by omega
      have IN := itIn_of hc
      rw [List.drop_eq_getElem_cons hlt] at hd
      have hy := hk l[i] (List.getElem_mem hlt)
      generalize l[i] = y at hd IN hy
      clear hc
      obtain ⟨k, a, sz, f, ln, x, V, vc, vs⟩ := y
      obtain ⟨x0, x1, x2, x3, x4, x5, x6, x7, xb⟩ := x
      obtain ⟨p0, p1, p2, p3, p4, p5, p6, p7, p8, p9, p10, p11, p12, p13, p14⟩ := IN
      have hys := hy.s
      rw [disjB_cons] at hd
      dsimp only at hd hys p0 p1 p2 p3 p4 p5 p6 p7 p8 p9 p10 p11 p12 p13 p14
      have HD := Lib.hid hd
      clear hd hy
      have hg' : g < wr.heap.size := by omega
      have hfin : ∀ o, Below w.heap.size w (wr.alloc o) := fun o => hbw.alloc hbw.size o
      have hfin2 : ∀ o, Below W0.heap.size W0 (wr.alloc o) := fun o => hbr.alloc hbr.size o
      have hsub : IntKind.i64.wrap ((s.size : Int) - q) = (s.size : Int) - q := IntWalk.i64_in _ (by omega)
      by_cases h1 : a = q
      · subst h1
        have e1 : (a != a) = false := by simp
        by_cases h2 : sz < 1
        · have hr : disjB s.size 0 l = false := by rw [HD.out, if_neg (by omega)]
          have e2 : decide (sz < 1) = true := decide_eq_true h2
          go_wp2
          exact bodyPost_ret (results_tmp rfl _ _ _) rfl ⟨by first | rfl | (rw [hr]; rfl), hfin _⟩
        · have e2 : decide (sz < 1) = false := decide_eq_false h2
          by_cases h3 : (s.size : Int) - a < sz
          · have hr : disjB s.size 0 l = false := by rw [HD.out, if_neg (by omega)]
            have e3 : decide ((s.size : Int) - a < sz) = true := decide_eq_true h3
            go_wp2
            exact bodyPost_ret (results_tmp rfl _ _ _) rfl ⟨by first | rfl | (rw [hr]; rfl), hfin _⟩
          · have e3 : decide ((s.size : Int) - a < sz) = false := decide_eq_false h3
            have hr : disjB s.size 0 l = disjB s.size (a + sz) (l.drop (i + 1)) := by rw [HD.out, if_pos ⟨rfl, by omega, by omega⟩]
            have hadd : IntKind.i64.wrap (a + sz) = a + sz := IntWalk.i64_in _ (by omega)
            go_wp2
            go_roundw
            case rel => exact ⟨i + 1, a + sz, by omega, by go_num, rfl, by omega, by omega, hr, hfin2 _⟩
            case measure => simp [intOf]; omega
      · have hr : disjB s.size 0 l = false := by rw [HD.out, if_neg (by omega)]
        have e1 : (a != q) = true := by simpa using h1
        go_wp2
        exact bodyPost_ret (results_tmp rfl _ _ _) rfl ⟨by first | rfl | (rw [hr]; rfl), hfin _⟩
    · have e : i = l.length := by omega
      subst e
      rw [List.drop_length] at hd
      go_wp2
      refine bodyPost_ret (results_tmp rfl _ _ _) rfl ⟨by rw [hd]; rfl, hbw⟩
#print axioms disj_any
end Go.Proofs.YtnpfihlaocpcfaaGreatDoor
/- For the seat: a place that an item stands at; bytes of 0; nothing asked. -/
namespace Go.Proofs.YtnpfihlaocpcfaaGreatDoor
open Go.Sx Go.ChangeShapes Go.WideShapes Go.RowKit Go.Joins Go.Deep

set_option maxRecDepth 100000 in
theorem stands1_any (y : Itm) (b : Nat) (p : Int) (w : World) (hb : b < w.heap.size) (hc : w.cell? ⟨b, 0, none⟩ = some (.int .i64 p)) :
    Calls Tryz.prog 40 #[y.val, .pointer (some ⟨b, 0, none⟩)] w fun e w' => e = .returned (.bool (y.a == p)) ∧ Below w.heap.size w w' := by
  obtain ⟨k, a, s, f, l, x, V, vc, vs⟩ := y
  obtain ⟨x0, x1, x2, x3, x4, x5, x6, x7, xb⟩ := x
  have hne : ¬ w.heap.size = b := by omega
  go_enter Tryz.func40, Tryz.ntmps40
  go_wp2
  exact bodyPost_ret (results_tmp rfl _ _ _) rfl ⟨rfl, (Below.refl _ _).alloc (Nat.le_refl _) _⟩

set_option maxRecDepth 100000 in
theorem any_take {l : List Itm} {p : Int} {i : Nat} (h : ∀ j y, j < i → l[j]? = some y → (y.a == p) = false) (hi : l.length ≤ i) : l.any (fun y => y.a == p) = false := by
  rw [List.any_eq_false]
  intro y hy
  obtain ⟨j, hj, rfl⟩ := List.getElem_of_mem hy
  have := h j l[j] (by omega) (List.getElem?_eq_getElem hj)
  simpa using this

set_option maxRecDepth 100000 in
set_option maxHeartbeats 1000000 in
theorem indexFunc_any (l : List Itm) (A : Option Addr) (cap : Nat) (b : Nat) (p : Int) (w : World) (hA : ItAt w w.heap.size A l) (hl : l.length ≤ maxLen) (hb : b < w.heap.size) (hc : w.cell? ⟨b, 0, none⟩ = some (.int .i64 p)) :
    Calls Tryz.prog 54 #[.slice A l.length cap, .func (.func 40) #[] #[.pointer (some ⟨b, 0, none⟩)]] w
      fun e w' => ∃ r : Int, e = .returned (.int .i64 r) ∧ decide (0 ≤ r) = (l.any fun y => y.a == p) ∧ Below w.heap.size w w' := by
  unfold maxLen at hl
  go_enter Tryz.func54, Tryz.ntmps54
  go_wp2
  go_loopw [8] (fun k wr => ∃ i : Nat, i ≤ l.length ∧ k = .int .i64 i ∧ (∀ j y, j < i → l[j]? = some y → (y.a == p) = false) ∧ Below w.heap.size w wr) (fun k _ => l.length - (intOf k).toNat)
  case atStart => exact ⟨0, by omega, rfl, fun j y hj => by omega, Below.refl _ _⟩
  case round =>
    obtain ⟨i, hi, rfl, hp, hbr⟩ := hrel
    by_cases hlt : i < l.length
    · obtain ⟨g, off, rfl, hg, hc'⟩ := (hA.below hbr (Nat.le_refl _)).at_ hlt
      have hk0 : (0 : Int) ≤ (i : Int) := by omega
      have hkl : (i : Int) < (l.length : Int) := by omega
      have IN := itIn_of hc'
      have hcl := stands1_any l[i] b p wr (Nat.lt_of_lt_of_le hb hbr.size) ((hbr.cell (p := ⟨b, 0, none⟩) hb).trans hc)
      have hyes : (l[i].a == p) = true → (l.any fun y => y.a == p) = true := fun h => List.any_eq_true.2 ⟨l[i], List.getElem_mem hlt, h⟩
      have hno : (l[i].a == p) = false → ∀ j y, j < i + 1 → l[j]? = some y → (y.a == p) = false := fun h j y hj hy => by
        by_cases e : j = i
        · subst e; rw [List.getElem?_eq_getElem hlt] at hy; cases hy; exact h
        · exact hp j y (by omega) hy
      clear hc'
      generalize l[i] = y at hcl IN hyes hno
      have HY := Lib.hid hyes
      have HN := Lib.hid hno
      clear hyes hno hp
      obtain ⟨k, a, s, f, ln, x, V, vc, vs⟩ := y
      obtain ⟨x0, x1, x2, x3, x4, x5, x6, x7, xb⟩ := x
      obtain ⟨p0, p1, p2, p3, p4, p5, p6, p7, p8, p9, p10, p11, p12, p13, p14⟩ := IN
      dsimp only [Itm.val, Itm.cells] at hcl p0 p1 p2 p3 p4 p5 p6 p7 p8 p9 p10 p11 p12 p13 p14
      go_wp2_with fail
      ((with_reducible refine hcl.mono ?_); rintro e w1 ⟨rfl, hb1⟩)
      have hb2 := hbr.trans (hb1.mono hbr.size)
      cases hq : (a == p)
      · have hn := HN.out hq
        go_wp2_with fail
        go_roundw
        case rel => exact ⟨i + 1, by omega, by go_num, hn, hb2⟩
        case measure => simp [intOf]; omega
      · have hn := HY.out hq
        go_wp2_with fail
        exact bodyPost_ret (results_tmp rfl _ _ _) rfl ⟨i, rfl, by rw [hn]; exact decide_eq_true hk0, hb2⟩
    · have e : i = l.length := by omega
      subst e
      have hn := any_take hp (Nat.le_refl _)
      go_wp2
      exact bodyPost_ret (results_tmp rfl _ _ _) rfl ⟨-1, rfl, by rw [hn]; rfl, hbr⟩

set_option maxRecDepth 100000 in
theorem contains_any (l : List Itm) (A : Option Addr) (cap : Nat) (b : Nat) (p : Int) (w : World) (hA : ItAt w w.heap.size A l) (hl : l.length ≤ maxLen) (hb : b < w.heap.size) (hc : w.cell? ⟨b, 0, none⟩ = some (.int .i64 p)) :
    Calls Tryz.prog 39 #[.slice A l.length cap, .func (.func 40) #[] #[.pointer (some ⟨b, 0, none⟩)]] w
      fun e w' => e = .returned (.bool (l.any fun y => y.a == p)) ∧ Below w.heap.size w w' := by
  have hI := indexFunc_any l A cap b p w hA hl hb hc
  go_enter Tryz.func39, Tryz.ntmps39
  go_wp2_with fail
  ((with_reducible refine hI.mono ?_); rintro e w1 ⟨r, rfl, hr, hb1⟩)
  go_wp2_with fail
  exact bodyPost_ret (results_tmp rfl _ _ _) rfl ⟨by rw [← hr]; rfl, hb1⟩

set_option maxRecDepth 100000 in
theorem cell_alloc1 (w : World) (v : Value) (t : TypeId) (b : Nat) (hb : b = w.heap.size) : (w.alloc (.cells #[v] t)).cell? ⟨b, 0, none⟩ = some v := by
  subst hb
  have h : (w.alloc (.cells #[v] t)).heap[w.heap.size]? = some (.cells #[v] t (0, 0)) := heap_alloc_new w _
  simp only [World.cell?, h]; rfl
set_option maxRecDepth 100000 in
theorem cell_allocN (w : World) (cs : Array Value) (t : TypeId) (j : Nat) : (w.alloc (.cells cs t)).cell? ⟨w.heap.size, j, none⟩ = cs[j]? := by
  have h : (w.alloc (.cells cs t)).heap[w.heap.size]? = some (.cells cs t (0, 0)) := heap_alloc_new w _
  simp only [World.cell?, h]
  rfl

/-- An image that is looked at. -/
abbrev imgV (s : ByteArray) (A : Option Addr) (n cap : Nat) (y : Itm) (p : ByteArray) (it : Int) : Value :=
  .agg #[.string s, .slice A n cap, .int .i64 y.k, .int .i64 y.a, .int .i64 y.s, .int .i64 y.f, .int .i64 y.l, .int .i64 y.x.x0, .int .i64 y.x.x1, .int .i64 y.x.x2, .int .i64 y.x.x3, .int .i64 y.x.x4, .int .i64 y.x.x5, .int .i64 y.x.x6, .int .i64 y.x.x7, .bool y.x.b, .slice y.V y.vs.length y.vc, .string p, .int .i64 it]

set_option maxRecDepth 100000 in
set_option maxHeartbeats 1000000 in
theorem stands_any (s : ByteArray) (l : List Itm) (A : Option Addr) (cap : Nat) (y : Itm) (p : ByteArray) (it q : Int) (w : World) (hA : ItAt w w.heap.size A l) (hl : l.length ≤ maxLen) :
    Calls Tryz.prog 29 #[imgV s A l.length cap y p it, .int .i64 q] w fun e w' => e = .returned (.bool (standsB s.size l q)) ∧ Below w.heap.size w w' := by
  obtain ⟨k, a, sz, f, ln, x, V, vc, vs⟩ := y
  obtain ⟨x0, x1, x2, x3, x4, x5, x6, x7, xb⟩ := x
  unfold standsB
  by_cases h : q = (s.size : Int)
  · subst h
    go_enter Tryz.func29, Tryz.ntmps29
    go_wp2
    exact bodyPost_ret (results_tmp rfl _ _ _) rfl ⟨by simp, ((Below.refl _ _).alloc (Nat.le_refl _) _).alloc (by simp) _⟩
  · have e : (q == (s.size : Int)) = false := by simpa using h
    have b0 : ∀ o1 o2, Below w.heap.size w ((w.alloc o1).alloc o2) := fun o1 o2 => ((Below.refl _ _).alloc (Nat.le_refl _) o1).alloc (by simp) o2
    have hC : ∀ o1 o2 (b : Nat), b < ((w.alloc o1).alloc o2).heap.size → ((w.alloc o1).alloc o2).cell? ⟨b, 0, none⟩ = some (.int .i64 q) → _ := fun o1 o2 b hb hc => contains_any l A cap b q ((w.alloc o1).alloc o2) ((hA.below (b0 o1 o2) (Nat.le_refl _)).more (b0 o1 o2).size) hl hb hc
    go_enter Tryz.func29, Tryz.ntmps29
    go_wp2_with fail
    ((refine (hC _ _ _ (by simp) (cell_alloc1 _ _ _ _ (by simp))).mono ?_); rintro e w1 ⟨rfl, hb1⟩)
    have hb2 := (b0 _ _).trans (hb1.mono (b0 _ _).size)
    go_wp2_with fail
    exact bodyPost_ret (results_tmp rfl _ _ _) rfl ⟨by rw [e]; rfl, hb2⟩

set_option maxRecDepth 100000 in
theorem anyi_any (s : ByteArray) (A : Option Addr) (n cap : Nat) (y : Itm) (p : ByteArray) (it : Int) (w : World) :
    Calls Tryz.prog 14 #[imgV s A n cap y p it] w fun e w' => e = .returned (.bool true) ∧ Below w.heap.size w w' := by
  go_enter Tryz.func14, Tryz.ntmps14
  go_wp2
  exact bodyPost_ret (results_tmp rfl _ _ _) rfl ⟨rfl, (Below.refl _ _).alloc (Nat.le_refl _) _⟩

set_option maxRecDepth 100000 in
set_option maxHeartbeats 1000000 in
theorem pad_any (s : ByteArray) (A : Option Addr) (n cap : Nat) (y : Itm) (p : ByteArray) (it : Int) (w : World) (hp : p.size ≤ maxLen) :
    Calls Tryz.prog 17 #[imgV s A n cap y p it] w fun e w' => e = .returned (.bool (p.data.toList.all (· == 0))) ∧ Below w.heap.size w w' := by
  unfold maxLen at hp
  obtain ⟨k, a, sz, f, ln, x, V, vc, vs⟩ := y
  obtain ⟨x0, x1, x2, x3, x4, x5, x6, x7, xb⟩ := x
  dsimp only [imgV]
  have b0 := (Below.refl w.heap.size w).alloc (Nat.le_refl _) (.cells #[.string s, .slice A n cap, .int .i64 k, .int .i64 a, .int .i64 sz, .int .i64 f, .int .i64 ln, .int .i64 x0, .int .i64 x1, .int .i64 x2, .int .i64 x3, .int .i64 x4, .int .i64 x5, .int .i64 x6, .int .i64 x7, .bool xb, .slice V vs.length vc, .string p, .int .i64 it] 42)
  have c17 := cell_allocN w #[.string s, .slice A n cap, .int .i64 k, .int .i64 a, .int .i64 sz, .int .i64 f, .int .i64 ln, .int .i64 x0, .int .i64 x1, .int .i64 x2, .int .i64 x3, .int .i64 x4, .int .i64 x5, .int .i64 x6, .int .i64 x7, .bool xb, .slice V vs.length vc, .string p, .int .i64 it] 42 17
  have hsz : (w.alloc (.cells #[.string s, .slice A n cap, .int .i64 k, .int .i64 a, .int .i64 sz, .int .i64 f, .int .i64 ln, .int .i64 x0, .int .i64 x1, .int .i64 x2, .int .i64 x3, .int .i64 x4, .int .i64 x5, .int .i64 x6, .int .i64 x7, .bool xb, .slice V vs.length vc, .string p, .int .i64 it] 42)).heap.size = w.heap.size + 1 := by simp
  change _ = some (Value.string p) at c17
  generalize hW : w.alloc (.cells #[.string s, .slice A n cap, .int .i64 k, .int .i64 a, .int .i64 sz, .int .i64 f, .int .i64 ln, .int .i64 x0, .int .i64 x1, .int .i64 x2, .int .i64 x3, .int .i64 x4, .int .i64 x5, .int .i64 x6, .int .i64 x7, .bool xb, .slice V vs.length vc, .string p, .int .i64 it] 42) = W0 at b0 c17 hsz
  go_enter Tryz.func17, Tryz.ntmps17
  go_wp2
  go_loopw [7] (fun c wr => ∃ i : Nat, i ≤ p.size ∧ c = .int .i64 i ∧ (∀ (j : Nat) (hj : j < p.size), j < i → p[j] = 0) ∧ Below W0.heap.size W0 wr) (fun c _ => p.size - (intOf c).toNat)
  case atStart => exact ⟨0, by omega, rfl, fun j _ hj => by omega, Below.refl _ _⟩
  case round =>
    obtain ⟨i, hi, rfl, hq, hbr⟩ := hrel
    have c1 : wr.cell? ⟨w.heap.size, 17, none⟩ = some (.string p) := (hbr.cell (p := ⟨w.heap.size, 17, none⟩) (by show w.heap.size < W0.heap.size; omega)).trans c17
    have hbw : Below w.heap.size w wr := b0.trans (hbr.mono (by omega))
    by_cases hlt : i < p.size
    · have hk0 : (0 : Int) ≤ (i : Int) := by omega
      have hkl : (i : Int) < (p.size : Int) := by omega
      by_cases he : p[i] = 0
      · have h' : ∀ (j : Nat) (hj : j < p.size), j < i + 1 → p[j] = 0 := fun j hj hji => by
          by_cases e : j = i
          · subst e; exact he
          · exact hq j hj (by omega)
        have e0 : (((p[i]).toNat : Int) != 0) = false := by rw [he]; rfl
        go_wp2
        go_roundw
        case rel => exact ⟨i + 1, by omega, by go_num, h', hbr⟩
        case measure => simp [intOf]; omega
      · have e0 : (((p[i]).toNat : Int) != 0) = true := by
          rw [bne_iff_ne]
          intro h
          exact he (UInt8.toNat_inj.1 (by simpa using h))
        have hr : (p.data.toList.all (· == 0)) = false := by
          rw [List.all_eq_false]
          exact ⟨p[i], by
            show p.data[i] ∈ p.data.toList
            exact Array.getElem_mem_toList _, by simpa using he⟩
        go_wp2
        exact bodyPost_ret (results_tmp rfl _ _ _) rfl ⟨by rw [hr]; rfl, hbw⟩
    · have e : i = p.size := by omega
      subst e
      have hr : (p.data.toList.all (· == 0)) = true := by
        rw [List.all_eq_true]
        intro x hx
        obtain ⟨j, hj, rfl⟩ := List.getElem_of_mem hx
        have := hq j hj hj
        rw [Array.getElem_toList]
        show (p[j] == 0) = true
        rw [this]; rfl
      go_wp2
      exact bodyPost_ret (results_tmp rfl _ _ _) rfl ⟨by rw [hr]; rfl, hbw⟩
#print axioms pad_any
end Go.Proofs.YtnpfihlaocpcfaaGreatDoor
/- For the seat: bits.Unpack: it stands in Unp. -/

