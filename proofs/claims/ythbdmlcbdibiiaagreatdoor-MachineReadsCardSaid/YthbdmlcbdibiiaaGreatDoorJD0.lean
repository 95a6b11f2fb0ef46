/- For the seat: texts joined: UnpDef, Unp, AnsDef. -/
import Derived.Test.YthbdmlcbdibiiaaGreatDoorJL0x1
import Derived.Deep.RegionHeldLaw
import Derived.Deep.RegionLaw
import Derived.Deep.AppendLies
import Derived.Lib.Strings
import Derived.WalkLawsBesides
import Derived.Test.YthbdmlcbdibiiaaGreatDoorJL1x0
/- For the seat: bytes as halfwords. -/
namespace Go.Proofs.YthbdmlcbdibiiaaGreatDoor
open Go.RowKit
def halfB (a b : UInt8) : Int := bits BinOp.or IntKind.i64 (IntKind.i64.wrap (a.toNat : Int)) (IntKind.i64.wrap (IntKind.i64.wrap (b.toNat : Int) * 256))
def unpB : List UInt8 → List Int
  | [] => []
  | [a] => [IntKind.i64.wrap (a.toNat : Int)]
  | a :: b :: r => halfB a b :: unpB r
end Go.Proofs.YthbdmlcbdibiiaaGreatDoor
/- For the seat: bits.Unpack: bytes as halfwords. -/
namespace Go.Proofs.YthbdmlcbdibiiaaGreatDoor
open Go.Sx Go.ChangeShapes Go.WideShapes Go.RowKit Go.Joins Go.Deep
set_option maxRecDepth 100000 in
theorem unpB_len : ∀ l : List UInt8, (unpB l).length ≤ l.length
  | [] => Nat.le_refl _
  | [_] => Nat.le_refl _
  | a :: b :: r => by have := unpB_len r; simp only [unpB, List.length_cons]; omega
set_option maxRecDepth 100000 in
theorem halfB_has (a b : UInt8) : kHas .i64 (halfB a b) := by
  unfold halfB bits
  exact wrap_has _ _
set_option maxRecDepth 100000 in
theorem unpB_has : ∀ l : List UInt8, ∀ v ∈ unpB l, kHas .i64 v
  | [], v, h => by simp [unpB] at h
  | [a], v, h => by
    simp only [unpB, List.mem_cons, List.not_mem_nil, or_false] at h
    subst h
    exact wrap_has _ _
  | a :: b :: r, v, h => by
    simp only [unpB, List.mem_cons] at h
    rcases h with rfl | h
    · exact halfB_has a b
    · exact unpB_has r v h
set_option maxRecDepth 100000 in
theorem step_app_int (w0 w1 : World) {ops : Array Oper} {o : Oper} {a : Act} {K : Act → World → Prop} {Q : Exit → Act → World → Prop} {E : Prop} (hgd : o.guard = none) (s x : Operand)
    (ho : o.op = .call { callee := .builtin .append, args := #[s, x], argTypes := #[38, 38] }) (base : Nat) (hbase : base ≤ w0.heap.size) (l : List Int) (b : Int) (hlen : l.length ≤ 5000000000)
    (v : Value) (hs : a.eval s = v) (hown : w0.ownsRow base 3 1 v l.length (encI l)) (g : Nat) (hx : a.eval x = .slice (some ⟨g, 0, none⟩) 1 1) (hg : g = w0.heap.size) (hw1 : w1 = w0.alloc (.cells #[.int .i64 b] 3))
    (h : ∀ v' w', w'.ownsRow base 3 1 v' (l ++ [b]).length (encI (l ++ [b])) → Below base w0 w' → K (a.put o.dst v') w') :
    if Region.wanted o (yielded ops a.tmps) = true then Oper.wp Tryz.prog o a w1 K Q else E := by
  subst hg hw1
  obtain ⟨i0, hi0, hz0, hz1, hz2⟩ := info_parts intInfo
  refine step_append_lies _ hgd s x 38 ho base 3 i0 _ 1 8 Tryz.underlying38 hi0 hz0 hz1 hz2 rfl (by decide) v l.length (encI l) hs (hown.alloc _) ⟨w0.heap.size, 0, none⟩ 1 1 [.int .i64 b] hx rfl (one_new _ _ _)
    (fun u hu => by simp at hu; subst hu; rfl) (by decide) (by unfold maxLen; omega) (by omega) (by simp; omega) _ rfl ?_
  intro g cap w' hown' hgrow _ _
  refine h _ w' (by rw [encI_snoc]; simpa using hown') ?_
  exact ((Below.refl base w0).alloc hbase _).grown hgrow (by simp; omega) (fun j hj => (hown.lt _ hj).1)
set_option maxRecDepth 100000 in
theorem own_out {w : World} {base : Nat} {v : Value} {l : List Int} (h : w.ownsRow base 3 1 v l.length (encI l)) : ∃ A cap, v = .slice A l.length cap ∧ IAt w w.heap.size A l ∧ l.length ≤ cap := by
  rcases h.2 with ⟨hv, h0⟩ | ⟨g, cap, cur, hv, hb, hh, hc, _⟩
  · obtain rfl := List.eq_nil_of_length_eq_zero h0
    exact ⟨none, 0, hv, IAt.nil _ _ _, Nat.zero_le _⟩
  · subst hv
    exact ⟨_, cap, rfl, IAt.of_own h, hc⟩
set_option maxRecDepth 100000 in
set_option maxHeartbeats 1000000 in
theorem unpack_any (s : ByteArray) (w : World) (hs : s.size ≤ 4000000000) :
    Calls Tryz.prog 53 #[.string s] w fun e w' => ∃ A cap, e = .returned (.slice A (unpB s.data.toList).length cap) ∧ IAt w' w'.heap.size A (unpB s.data.toList) ∧ (unpB s.data.toList).length ≤ cap ∧ Below w.heap.size w w' := by
  go_enter Tryz.func53, Tryz.ntmps53
  go_wp2
  go_loopw [0, 3] (fun t v wr => ∃ (b : ByteArray) (pre : List Int), t = .string b ∧ unpB s.data.toList = pre ++ unpB b.data.toList ∧ b.size ≤ s.size ∧ wr.ownsRow w.heap.size 3 1 v pre.length (encI pre) ∧ Below w.heap.size w wr) (fun t _ _ => match t with | .string b => b.size | _ => 0)
  case atStart => exact ⟨s, [], rfl, rfl, Nat.le_refl _, World.ownsRow_nil _ _ _ _, Below.refl _ _⟩
  case round =>
    obtain ⟨b, pre, rfl, hp, hbs, hown, hbr⟩ := hrel
    have hpl : pre.length ≤ s.size := by
      have := congrArg List.length hp
      rw [List.length_append] at this
      have h2 := unpB_len s.data.toList
      have h3 : s.data.toList.length = s.size := rfl
      omega
    have HP := Lib.hid hp
    clear hp
    by_cases h1 : 1 < b.size
    · have e1 : decide ((1 : Int) < (b.size : Int)) = true := decide_eq_true (by omega)
      have h0 : (0 : Nat) < b.size := by omega
      go_wp2_with fail
      go_region_held_law (fun _ => True) (trivial) (first | (refine step_app_int wr.drew _ rfl _ _ rfl w.heap.size hbr.size pre _ (by omega) _ rfl hown _ rfl rfl rfl ?_; intro v2 w2 hown2 hb2))
      go_wp2
      all_goals
        have hsz : b.data.toList.length = b.size := rfl
        obtain ⟨p, q, r, hb⟩ : ∃ p q r, b.data.toList = p :: q :: r := by
          match hl : b.data.toList with
          | [] => rw [hl] at hsz; simp at hsz; omega
          | [_] => rw [hl] at hsz; simp at hsz; omega
          | p :: q :: r => exact ⟨p, q, r, rfl⟩
        have hbl : b.size = r.length + 2 := by rw [← hsz, hb]; rfl
        have hx : (b.extract 2 b.size).data.toList = r := by
          rw [Lib.extract_data, hb, hbl]
          simp
        have hxs : (b.extract 2 b.size).size = r.length := by
          rw [← hx]; rfl
        have x0 : b[0] = p := by
          show b.data[0] = p
          rw [← Array.getElem_toList]; simp [hb]
        have x1 : b[1] = q := by
          show b.data[1] = q
          rw [← Array.getElem_toList]; simp [hb]
        refine ⟨⟨_, _, rfl, ?_, ?_, hown2, hbr.drew.trans hb2⟩, ?_⟩
        · rw [hx, HP.out, hb, x0, x1, List.append_assoc]; rfl
        · omega
        · show (b.extract 2 b.size).size < b.size
          omega
    · have e1 : decide ((1 : Int) < (b.size : Int)) = false := decide_eq_false (by omega)
      by_cases h2 : b.size = 1
      · have e2 : ((b.size : Int) == 1) = true := by rw [h2]; rfl
        have h0 : (0 : Nat) < b.size := by omega
        go_wp2_with (at_builtin; refine app_int wr rfl _ _ rfl w.heap.size hbr.size pre (wrap64 (b[0].toNat : Int)) (by omega) _ rfl ?_ _ rfl rfl ?_; exact hown; intro v2 w2 hown2 hb2)
        have hsz : b.data.toList.length = b.size := rfl
        obtain ⟨p, hb⟩ : ∃ p, b.data.toList = [p] := by
          match hl : b.data.toList with
          | [] => rw [hl] at hsz; simp at hsz; omega
          | [p] => exact ⟨p, rfl⟩
          | p :: q :: r => rw [hl] at hsz; simp at hsz; omega
        have x0 : b[0] = p := by
          show b.data[0] = p
          rw [← Array.getElem_toList]; simp [hb]
        have hfin : unpB s.data.toList = pre ++ [wrap64 (b[0].toNat : Int)] := by
          rw [HP.out, hb, x0, ← IntWalk.i64_left]; rfl
        rw [hfin]
        obtain ⟨A, cap, rfl, hA, hc⟩ := own_out hown2
        exact bodyPost_ret (results_tmp rfl _ _ _) rfl ⟨A, cap, rfl, hA, hc, hbr.trans hb2⟩
      · have e2 : ((b.size : Int) == 1) = false := by simpa using fun h => h2 (by omega)
        go_wp2_with fail
        have hb : b.data.toList = [] := by
          have hsz : b.data.toList.length = b.size := rfl
          exact List.eq_nil_of_length_eq_zero (by omega)
        have hfin : unpB s.data.toList = pre := by
          rw [HP.out, hb]; exact List.append_nil _
        rw [hfin]
        obtain ⟨A, cap, rfl, hA, hc⟩ := own_out hown
        exact bodyPost_ret (results_tmp rfl _ _ _) rfl ⟨A, cap, rfl, hA, hc, hbr⟩
#print axioms unpack_any
end Go.Proofs.YthbdmlcbdibiiaaGreatDoor
/- For the seat: what a halfword, or two, are read as: there is always an answer. -/
namespace Go.Proofs.YthbdmlcbdibiiaaGreatDoor
open Go.Sx Go.ChangeShapes Go.WideShapes Go.RowKit Go.Joins Go.Deep
def fldsOf : SVal → Option (List Tm × Tm)
  | .cons (.int .i64 a0) (.cons (.int .i64 a1) (.cons (.int .i64 a2) (.cons (.int .i64 a3) (.cons (.int .i64 a4) (.cons (.int .i64 a5) (.cons (.int .i64 a6) (.cons (.int .i64 a7) (.cons (.bool b) .nil)))))))) =>
    match a0.inK .i64 && (a1.inK .i64 && (a2.inK .i64 && (a3.inK .i64 && (a4.inK .i64 && (a5.inK .i64 && (a6.inK .i64 && a7.inK .i64)))))) with
    | true => some ([a0, a1, a2, a3, a4, a5, a6, a7], b)
    | false => none
  | _ => none
set_option maxRecDepth 100000 in
theorem fldsOf_ok {ρ : Env} (V : VarsOk ρ) {v : SVal} {p : List Tm × Tm} (h : fldsOf v = some p) : ∃ x : Fields, x.Ok ∧ ∀ ι, (SVal.agg v).conc ρ ι = x.val := by
  unfold fldsOf at h
  split at h
  · rename_i a0 a1 a2 a3 a4 a5 a6 a7 b
    split at h
    · rename_i hk
      simp only [Bool.and_eq_true] at hk
      obtain ⟨k0, k1, k2, k3, k4, k5, k6, k7⟩ := hk
      exact ⟨⟨(a0.den ρ).asInt, (a1.den ρ).asInt, (a2.den ρ).asInt, (a3.den ρ).asInt, (a4.den ρ).asInt, (a5.den ρ).asInt, (a6.den ρ).asInt, (a7.den ρ).asInt, (b.den ρ).asBool⟩,
        ⟨inK_ok V .i64 a0 k0, inK_ok V .i64 a1 k1, inK_ok V .i64 a2 k2, inK_ok V .i64 a3 k3, inK_ok V .i64 a4 k4, inK_ok V .i64 a5 k5, inK_ok V .i64 a6 k6, inK_ok V .i64 a7 k7⟩, fun _ => rfl⟩
    · cases h
  · cases h
def ansD (x : Res) : Tree Res :=
  match insOf x.v with
  | some (.agg l, _) => match fldsOf l with
    | some _ => .leaf trueRes
    | none => .fail "no fields"
  | _ => .fail "no instruction"
structure DecP (D : Nat) (args : List Value) (p : Fields × Bool) : Prop where
  ok : p.1.Ok
  ans : Ans D args (.tuple #[p.1.val, .bool p.2])
noncomputable def ansTree (cx : Cx) (S : Specs) (fuel : Nat) (D : FuncId) (pat : List SVal) (c : Cas) : Tree Res :=
  .ite c.cond (.assert (allT (condS c.sub ++ c.pc)) ((callT cx S (run cx S fuel) D (pat.map (subV c.sub)) [] (c.pc.foldr mkAnd (.bit true))).bind ansD)) (.leaf trueRes)
set_option maxRecDepth 100000 in
theorem ans_ok {ρ : Env} {cx' : Cx} (ok : cx'.Ok) (hP : cx'.P = cx.P) (hG : cx'.globs = cx.globs) {S : Specs} (hS : S.Ok ρ cx') (hB : ∀ f, S f ≠ none → ∃ fn c, cx'.P.funcs[f]? = some fn ∧ fn.body = some c) (V : VarsOk ρ) {fuel : Nat} {D : FuncId} {pat : List SVal} {l : List Value} {c : Cas}
    (hsc : ∀ v ∈ pat, v.sc 0 = true) (hl : pat.map (·.conc ρ ι0) = l) (hc : (c.cond.den ρ).asBool = true) {sg : Sg} (so : sg.Ok ρ) {e : Kn} (hs : Sats ρ e) (hx : pxBoth sg (ansTree cx' S fuel D pat c) e = true) (hab : ∀ q, ¬ ρ.ab.B q := by exact fun _ h => h) :
    ∃ p, DecP D l p := by
  obtain ⟨z, b, h1, h2, h3⟩ := pxBoth_ok so _ _ hs hx
  simp only [ansTree, Tree.get, hc] at h1
  cases ha : ((allT (condS c.sub ++ c.pc)).den ρ).asBool with
  | false => rw [ha] at h1; cases h1
  | true =>
  rw [ha] at h1
  have hall := allT_den ρ _ ha
  have hsub : ∀ t ∈ condS c.sub, (t.den ρ).asBool = true := fun t ht => hall t (by simp [ht])
  simp only [Tree.get_bind, Option.bind_eq_some_iff] at h1
  obtain ⟨x, hx1, hx2⟩ := h1
  have hcall := call_ok ok hS hB (conj_den ρ _ (fun t ht => hall t (by simp [ht]))) hx1
  have hcall' : CallOk ρ cx.globs cx.P D pat [] x := by
    rw [← hP, ← hG]
    refine hcall.args ?_ ?_
    · intro v hv
      obtain ⟨u, hu, rfl⟩ := List.mem_map.1 hv
      exact subV_sc u (hsc u hu)
    · intro ι
      rw [List.map_map]
      exact List.map_congr_left fun v _ => (subV_conc hsub ι v).1
  unfold ansD at hx2
  split at hx2
  · rename_i l' o hi
    split at hx2
    · rename_i q hq
      obtain ⟨y, hy, hv⟩ := fldsOf_ok V hq
      exact ⟨(y, (o.den ρ).asBool), hy, ans_of hcall' hsc hl (fun ι => by rw [insOf_conc hi ι, hv ι]) hab⟩
    · cases hx2
  · cases hx2
namespace sho
def kn : Kn := ⟨[], [], [], [], [0]⟩
def bitsL : List (Nat × Nat) := [(65024, 0), (65024, 512), (65024, 1024), (65024, 1536), (65024, 2048), (65024, 2560), (65024, 3072), (65024, 3584), (65024, 4096), (65024, 4608), (65024, 5120), (65024, 5632), (65024, 6144), (65024, 6656), (65024, 7168), (65024, 7680), (65024, 8192), (65024, 8704), (65024, 9216), (65024, 9728), (65024, 10240), (65024, 10752), (65024, 11264), (65024, 11776), (65024, 12288), (65024, 12800), (65024, 13312), (65024, 13824), (65024, 14336), (65024, 14848), (65024, 15360), (65024, 15872), (65472, 16384), (65472, 16448), (65472, 16512), (65472, 16576), (65472, 16640), (65472, 16704), (65472, 16768), (65472, 16832), (65472, 16896), (65472, 16960), (65472, 17024), (65472, 17088), (65472, 17152), (65472, 17216), (65472, 17280), (65472, 17344), (65280, 17408), (65280, 17664), (65280, 17920), (65280, 18176), (63488, 18432), (65024, 20480), (65024, 20992), (65024, 21504), (65024, 22016), (65024, 22528), (65024, 23040), (65024, 23552), (65024, 24064), (63488, 24576), (63488, 26624), (63488, 28672), (63488, 30720), (63488, 32768), (63488, 34816), (63488, 36864), (63488, 38912), (63488, 40960), (63488, 43008), (65280, 45056), (65280, 45312), (65280, 45568), (65280, 45824), (65280, 46080), (65280, 46336), (65280, 46592), (65280, 46848), (65280, 47104), (65280, 47360), (65280, 47616), (65280, 47872), (65280, 48128), (65280, 48384), (65280, 48640), (65280, 48896), (63488, 49152), (63488, 51200), (61440, 53248), (63488, 57344), (63488, 59392), (63488, 61440), (63488, 63488)]
def cases : List Cas := bitsL.map fun c => Cb.bits 0 c.1 c.2
def pat : List SVal := [.int .i64 (.var 0), .bool (.var 1)]
def nth (j : Nat) : Cas := cases.getD j ⟨[], [], []⟩
set_option maxRecDepth 100000 in
theorem cov : pxT sg (anyT (cases.map Cas.cond)) kn (fun _ => true) = true := by kernel_rfl
set_option maxRecDepth 100000 in
theorem len : cases.length = 94 := by kernel_rfl
end sho
def scsH (n : Int) (it : Bool) : List Sc := [.int n, .bool it]
set_option maxRecDepth 100000 in
theorem scsH_ok {n : Int} (h : kHas .i64 n) (it : Bool) : VarsOk (envOf F2 (scsH n it)) := by
  refine ⟨?_, F2_has⟩
  intro i
  match i with
  | 0 => exact h
  | 1 => exact zero_has
  | k + 2 => exact zero_has
set_option maxRecDepth 100000 in
theorem knH_ok {n : Int} (h : kHas .i64 n) (it : Bool) : Sats (envOf F2 (scsH n it)) sho.kn := by
  refine Sats.start (scsH_ok h it) _ ?_
  intro i hi
  simp only [List.mem_cons, List.not_mem_nil, or_false] at hi
  subst hi
  exact ⟨_, rfl⟩
namespace tal
def kn : Kn := ⟨[], [], [], [], [0, 1]⟩
def pat3 : List SVal := [.int .i64 (.var 0), .int .i64 (.var 1), .bool (.var 2)]
def cases : List Cas :=
  [Cb.bits 0 0x8000 0, Cb.bits 0 0xC000 0x8000, Cb.bits 0 0xE000 0xC000, Cb.bits 0 0xF800 0xE000] ++
  (List.range 32).map (fun i => Cb.bits 0 0xFFF0 (0xE800 + 16 * i)) ++
  Cas.mul ((List.range 32).map fun i => Cb.bits 0 0xFFF0 (0xEA00 + 16 * i)) [Cb.bits 1 0x8000 0x8000, Cb.bits 1 0xC000 0x4000, Cb.bits 1 0xE000 0x2000, Cb.bits 1 0xF000 0x1000, Cb.bits 1 0xF080 0x80, Cb.bits 1 0xF0C0 0x40, Cb.bits 1 0xF0E0 0x20, Cb.bits 1 0xF0F0 0x10, Cb.bits 1 0xF0F0 0] ++
  (List.range 4).map (fun i => Cb.bits 0 0xFF00 (0xEC00 + 256 * i)) ++
  (List.range 32).map (fun i => Cb.bits 0 0xFFF0 (0xF000 + 16 * i)) ++
  (List.range 2).map (fun i => Cb.bits 0 0xFF00 (0xF200 + 256 * i)) ++
  (List.range 32).map (fun i => Cb.bits 0 0xFFF0 (0xF400 + 16 * i)) ++
  (List.range 2).map (fun i => Cb.bits 0 0xFF00 (0xF600 + 256 * i)) ++
  (List.range 16).map (fun i => Cb.bits 0 0xFFF0 (0xF800 + 16 * i)) ++
  (List.range 7).map (fun i => Cb.bits 0 0xFF00 (0xF900 + 256 * i))
def nth (j : Nat) : Cas := cases.getD j ⟨[], [], []⟩
set_option maxRecDepth 100000 in
theorem cov : pxT sg (anyT (cases.map Cas.cond)) kn (fun _ => true) = true := by kernel_rfl
set_option maxRecDepth 100000 in
theorem len : cases.length = 419 := by kernel_rfl
end tal
def scsT (a b : Int) (it : Bool) : List Sc := [.int a, .int b, .bool it]
set_option maxRecDepth 100000 in
theorem scsT_ok {a b : Int} (ha : kHas .i64 a) (hb : kHas .i64 b) (it : Bool) : VarsOk (envOf F2 (scsT a b it)) := by
  refine ⟨?_, F2_has⟩
  intro i
  match i with
  | 0 => exact ha
  | 1 => exact hb
  | 2 => exact zero_has
  | k + 3 => exact zero_has
set_option maxRecDepth 100000 in
theorem knT_ok {a b : Int} (ha : kHas .i64 a) (hb : kHas .i64 b) (it : Bool) : Sats (envOf F2 (scsT a b it)) tal.kn := by
  refine Sats.start (scsT_ok ha hb it) _ ?_
  intro i hi
  simp only [List.mem_cons, List.not_mem_nil, or_false] at hi
  rcases hi with rfl | rfl
  · exact ⟨_, rfl⟩
  · exact ⟨_, rfl⟩
namespace sho
noncomputable def at' (j : Nat) : Bool := pxBoth sg (ansTree cxs' widS 3000 103 pat (nth j)) kn
end sho
namespace tal
noncomputable def at' (j : Nat) : Bool := pxBoth sg (ansTree cxs' widS 3000 104 pat3 (nth j)) kn
end tal
set_option maxRecDepth 100000 in
theorem sho_dec (H : ∀ j : Nat, j < sho.cases.length → sho.at' j = true) {n : Int} (hn : kHas .i64 n) (it : Bool) : ∃ p, DecP 103 [.int .i64 n, .bool it] p := by
  have so := sg_ok' (ρ := envOf F2 (scsH n it)) F2_signs
  have S := knH_ok hn it
  obtain ⟨c, hc, hcond⟩ := cas_cov so S sho.cov
  obtain ⟨j, hj, hjc⟩ := List.getElem_of_mem hc
  have hnth : sho.nth j = c := by simp only [sho.nth, List.getD, List.getElem?_eq_getElem hj, Option.getD_some, hjc]
  have hgo := H j hj
  rw [sho.at', hnth] at hgo
  exact ans_ok cxsok' rfl rfl (widS_ok (scsH_ok hn it) rfl) widS_body (scsH_ok hn it) (by intro v hv; simp [sho.pat] at hv; rcases hv with rfl | rfl <;> rfl) rfl hcond so S hgo
set_option maxRecDepth 100000 in
theorem tal_dec (H : ∀ j : Nat, j < tal.cases.length → tal.at' j = true) {a b : Int} (ha : kHas .i64 a) (hb : kHas .i64 b) (it : Bool) : ∃ p, DecP 104 [.int .i64 a, .int .i64 b, .bool it] p := by
  have so := sg_ok' (ρ := envOf F2 (scsT a b it)) F2_signs
  have S := knT_ok ha hb it
  obtain ⟨c, hc, hcond⟩ := cas_cov so S tal.cov
  obtain ⟨j, hj, hjc⟩ := List.getElem_of_mem hc
  have hnth : tal.nth j = c := by simp only [tal.nth, List.getD, List.getElem?_eq_getElem hj, Option.getD_some, hjc]
  have hgo := H j hj
  rw [tal.at', hnth] at hgo
  exact ans_ok cxsok' rfl rfl (widS_ok (scsT_ok ha hb it) rfl) widS_body (scsT_ok ha hb it) (by intro v hv; simp [tal.pat3] at hv; rcases hv with rfl | rfl | rfl <;> rfl) rfl hcond so S hgo
end Go.Proofs.YthbdmlcbdibiiaaGreatDoor
