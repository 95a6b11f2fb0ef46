/- For the seat: texts joined: Lit. -/
import Derived.Test.YtiicniiecomhjaaDoorJD
/- For the seat: what some halfwords are read as: chapter 12's example. -/
namespace Go.Proofs.YtiicniiecomhjaaDoor
open Go.Sx Go.ChangeShapes Go.WideShapes Go.RowKit Go.Joins Go.Deep

namespace lit
/-- Is the answer this instruction? -/
def litD (x : Fields) (ok : Bool) (r : Res) : Tree Res :=
  match insOf r.v with
  | some (.agg (.cons (.int .i64 a0) (.cons (.int .i64 a1) (.cons (.int .i64 a2) (.cons (.int .i64 a3) (.cons (.int .i64 a4) (.cons (.int .i64 a5) (.cons (.int .i64 a6) (.cons (.int .i64 a7) (.cons (.bool b) .nil))))))))), o) =>
    .leaf ⟨.bool (allT [.op2 .eq a0 (.num x.x0), .op2 .eq a1 (.num x.x1), .op2 .eq a2 (.num x.x2), .op2 .eq a3 (.num x.x3), .op2 .eq a4 (.num x.x4), .op2 .eq a5 (.num x.x5), .op2 .eq a6 (.num x.x6), .op2 .eq a7 (.num x.x7), .op2 .beq b (.bit x.b), .op2 .beq o (.bit ok)]), [], .bit true⟩
  | _ => .fail "no instruction"
noncomputable def litT (D : Nat) (args : List SVal) (x : Fields) (ok : Bool) : Tree Res := (callT cxs' noS (run cxs' noS 3000) D args [] (.bit true)).bind (litD x ok)
def kn : Kn := ⟨[], [], [], [], []⟩
theorem vars : VarsOk (envOf F2 []) := ⟨fun i => by cases i <;> exact zero_has, F2_has⟩

theorem ok {D : Nat} {args : List SVal} {x : Fields} {ok : Bool} {l : List Value} (hsc : ∀ u ∈ args, u.sc 0 = true) (ha : args.map (·.conc (envOf F2 []) ι0) = l) (h : pxBoth sg (litT D args x ok) kn = true) : Ans D l (.tuple #[x.val, .bool ok]) := by
  have so := sg_ok' (ρ := envOf F2 []) F2_signs
  have S : Sats (envOf F2 []) kn := Sats.start vars _ (by intro i hi; cases hi)
  obtain ⟨z, b, h1, h2, h3⟩ := pxBoth_ok so _ _ S h
  simp only [litT, Tree.get_bind, Option.bind_eq_some_iff] at h1
  obtain ⟨y, hy, hl⟩ := h1
  have hc := call_ok cxsok' (noS_ok _ _) (noS_body _) rfl hy
  unfold litD at hl
  split at hl
  · rename_i a0 a1 a2 a3 a4 a5 a6 a7 bb o hi
    simp only [Tree.get, Option.some.injEq] at hl
    subst hl
    cases h2
    have hall := allT_den _ _ h3
    have e : ∀ (t : Tm) (n : Int), Tm.op2 .eq t (.num n) ∈ [Tm.op2 .eq a0 (.num x.x0), .op2 .eq a1 (.num x.x1), .op2 .eq a2 (.num x.x2), .op2 .eq a3 (.num x.x3), .op2 .eq a4 (.num x.x4), .op2 .eq a5 (.num x.x5), .op2 .eq a6 (.num x.x6), .op2 .eq a7 (.num x.x7), .op2 .beq bb (.bit x.b), .op2 .beq o (.bit ok)] → (t.den (envOf F2 [])).asInt = n := by
      intro t n hm
      have : ((t.den (envOf F2 [])).asInt == n) = true := hall _ hm
      exact eq_of_beq this
    have f : ∀ (t : Tm) (n : Bool), Tm.op2 .beq t (.bit n) ∈ [Tm.op2 .eq a0 (.num x.x0), .op2 .eq a1 (.num x.x1), .op2 .eq a2 (.num x.x2), .op2 .eq a3 (.num x.x3), .op2 .eq a4 (.num x.x4), .op2 .eq a5 (.num x.x5), .op2 .eq a6 (.num x.x6), .op2 .eq a7 (.num x.x7), .op2 .beq bb (.bit x.b), .op2 .beq o (.bit ok)] → (t.den (envOf F2 [])).asBool = n := by
      intro t n hm
      have : ((t.den (envOf F2 [])).asBool == n) = true := hall _ hm
      exact eq_of_beq this
    refine ans_of hc hsc ha fun ι => ?_
    rw [insOf_conc hi ι, f o ok (by simp)]
    show Value.tuple #[Value.agg #[.int .i64 _, .int .i64 _, .int .i64 _, .int .i64 _, .int .i64 _, .int .i64 _, .int .i64 _, .int .i64 _, .bool _], _] = _
    rw [e a0 x.x0 (by simp), e a1 x.x1 (by simp), e a2 x.x2 (by simp), e a3 x.x3 (by simp), e a4 x.x4 (by simp), e a5 x.x5 (by simp), e a6 x.x6 (by simp), e a7 x.x7 (by simp), f bb x.b (by simp)]
    rfl
  · cases hl

set_option maxRecDepth 100000 in
theorem it1 : pxBoth sg (litT 22 [.int .i64 (.num 48904), .bool (.bit false)] ⟨42, 0, 0, 0, 0, 8, 1, 0, false⟩ true) kn = true := by kernel_rfl
set_option maxRecDepth 100000 in
theorem mv1 : pxBoth sg (litT 22 [.int .i64 (.num 8193), .bool (.bit true)] ⟨10, 0, 0, 0, 0, 1, 1, 0, false⟩ true) kn = true := by kernel_rfl
set_option maxRecDepth 100000 in
theorem ud1 : pxBoth sg (litT 22 [.int .i64 (.num 56832), .bool (.bit false)] ⟨0, 0, 0, 0, 0, 0, 0, 0, false⟩ false) kn = true := by kernel_rfl
set_option maxRecDepth 100000 in
theorem mv2 : pxBoth sg (litT 23 [.int .i64 (.num 61519), .int .i64 (.num 1), .bool (.bit false)] ⟨10, 0, 0, 0, 0, 1, 1, 0, false⟩ true) kn = true := by kernel_rfl
theorem dec_it : Ans 22 [.int .i64 48904, .bool false] (.tuple #[(⟨42, 0, 0, 0, 0, 8, 1, 0, false⟩ : Fields).val, .bool true]) := ok (by intro u hu; simp at hu; rcases hu with rfl | rfl <;> rfl) rfl it1
theorem dec_mv1 : Ans 22 [.int .i64 8193, .bool true] (.tuple #[(⟨10, 0, 0, 0, 0, 1, 1, 0, false⟩ : Fields).val, .bool true]) := ok (by intro u hu; simp at hu; rcases hu with rfl | rfl <;> rfl) rfl mv1
theorem dec_ud : Ans 22 [.int .i64 56832, .bool false] (.tuple #[(⟨0, 0, 0, 0, 0, 0, 0, 0, false⟩ : Fields).val, .bool false]) := ok (by intro u hu; simp at hu; rcases hu with rfl | rfl <;> rfl) rfl ud1
theorem dec_mv2 : Ans 23 [.int .i64 61519, .int .i64 1, .bool false] (.tuple #[(⟨10, 0, 0, 0, 0, 1, 1, 0, false⟩ : Fields).val, .bool true]) := ok (by intro u hu; simp at hu; rcases hu with rfl | rfl | rfl <;> rfl) rfl mv2
end lit

theorem pair_inj {x y : Fields} {a b : Bool} (h : Value.tuple #[x.val, .bool a] = Value.tuple #[y.val, .bool b]) : x = y ∧ a = b := by
  simp only [Value.tuple.injEq] at h
  have h := congrArg Array.toList h
  simp only [List.cons.injEq, Value.bool.injEq, and_true] at h
  exact ⟨val_inj h.1, h.2⟩
theorem shortOf_eq {a : Int} (ha : kHas .i64 a) {it : Bool} {x : Fields} {ok : Bool} (h : Ans 22 [.int .i64 a, .bool it] (.tuple #[x.val, .bool ok])) : shortOf a it = (x, ok) := by
  obtain ⟨h1, h2⟩ := pair_inj (Ans.one (by kernel_rfl) (shortOf_ok ha it).ans h)
  exact Prod.ext h1 h2
theorem tallOf_eq {a b : Int} (ha : kHas .i64 a) (hb : kHas .i64 b) {it : Bool} {x : Fields} {ok : Bool} (h : Ans 23 [.int .i64 a, .int .i64 b, .bool it] (.tuple #[x.val, .bool ok])) : tallOf a b it = (x, ok) := by
  obtain ⟨h1, h2⟩ := pair_inj (Ans.one (by kernel_rfl) (tallOf_ok ha hb it).ans h)
  exact Prod.ext h1 h2

theorem has_lit (n : Nat) (h : n < 65536) : kHas .i64 (n : Int) := ⟨by show (-(2:Int)^63) ≤ n; omega, by show (n : Int) < 2 ^ 63; omega⟩

theorem lit_dec1 (r : List Int) : decOf (48904 :: r) false = (⟨42, 0, 0, 0, 0, 8, 1, 0, false⟩, 1, 0) := by
  have e := shortOf_eq (has_lit 48904 (by decide)) lit.dec_it
  have hb : longB 48904 = false := by kernel_rfl
  cases r with
  | nil => rw [decOf_one, hb, if_neg (by decide)]; erw [e]; rfl
  | cons b r => rw [decOf_two, hb, if_neg (by decide)]; erw [e]; rfl
theorem lit_dec2 (r : List Int) : decOf (8193 :: r) true = (⟨10, 0, 0, 0, 0, 1, 1, 0, false⟩, 1, 0) := by
  have e := shortOf_eq (has_lit 8193 (by decide)) lit.dec_mv1
  have hb : longB 8193 = false := by kernel_rfl
  cases r with
  | nil => rw [decOf_one, hb, if_neg (by decide)]; erw [e]; rfl
  | cons b r => rw [decOf_two, hb, if_neg (by decide)]; erw [e]; rfl
theorem lit_dec3 (it : Bool) : decOf [65535] it = (zeroF, 0, 2) := by
  have hb : longB 65535 = true := by kernel_rfl
  rw [decOf_one, hb]; rfl
theorem lit_dec4 : decOf [61519] false = (zeroF, 0, 2) := by
  have hb : longB 61519 = true := by kernel_rfl
  rw [decOf_one, hb]; rfl
theorem lit_dec5 : decOf [56832] false = (zeroF, 0, 10) := by
  have e := shortOf_eq (has_lit 56832 (by decide)) lit.dec_ud
  have hb : longB 56832 = false := by kernel_rfl
  rw [decOf_one, hb, if_neg (by decide)]; erw [e]; rfl
theorem lit_dec6 : decOf [61519, 1] false = (⟨10, 0, 0, 0, 0, 1, 1, 0, false⟩, 2, 0) := by
  have e := tallOf_eq (has_lit 61519 (by decide)) (has_lit 1 (by decide)) lit.dec_mv2
  have hb : longB 61519 = true := by kernel_rfl
  rw [decOf_two, hb, if_pos rfl]; erw [e]; rfl
theorem lit_aft1 : aftI 0 ⟨42, 0, 0, 0, 0, 8, 1, 0, false⟩ = 8 := by kernel_rfl
theorem lit_stream : strmA [48904, 8193, 65535] 0 0 = [(0, ⟨42, 0, 0, 0, 0, 8, 1, 0, false⟩), (1, ⟨10, 0, 0, 0, 0, 1, 1, 0, false⟩)] := by
  have b0 : itB 0 = false := by kernel_rfl
  have b8 : itB 8 = true := by kernel_rfl
  have d1 : decOf ([48904, 8193, 65535].drop 0) (itB 0) = (⟨42, 0, 0, 0, 0, 8, 1, 0, false⟩, 1, 0) := by rw [b0]; exact lit_dec1 _
  have d2 : decOf ([48904, 8193, 65535].drop 1) (itB 8) = (⟨10, 0, 0, 0, 0, 1, 1, 0, false⟩, 1, 0) := by rw [b8]; exact lit_dec2 _
  have d3 : ∀ it, decOf ([48904, 8193, 65535].drop 2) it = (zeroF, 0, 2) := lit_dec3
  rw [strmA_go (n := 1) (by decide) (by rw [d1]) (by rw [d1]; rfl), d1]
  simp only [lit_aft1]
  rw [strmA_go (n := 1) (by decide) (by rw [d2]) (by rw [d2]; rfl), d2, strmA_stop]
  rintro ⟨_, h⟩
  rw [show (0 : Nat) + 1 + 1 = 2 from rfl, d3] at h
  exact absurd h (by decide)
end Go.Proofs.YtiicniiecomhjaaDoor
