/- For the seat: texts joined: KerU. -/
import Derived.Test.YtiicniiecomhjaaDoorJKerDef
import Derived.Deep.RegionHeldLaw
import Derived.Deep.RegionLaw
import Derived.Deep.AppendLies
import Derived.Lib.Strings
import Derived.WalkLawsBesides
/- For the seat: bits.Unpack: bytes as halfwords. -/
namespace Go.Proofs.YtiicniiecomhjaaDoor
open Go.Sx Go.ChangeShapes Go.WideShapes Go.RowKit Go.Joins Go.Deep

theorem unpB_len : ∀ l : List UInt8, (unpB l).length ≤ l.length
  | [] => Nat.le_refl _
  | [_] => Nat.le_refl _
  | a :: b :: r => by have := unpB_len r; simp only [unpB, List.length_cons]; omega

theorem halfB_has (a b : UInt8) : kHas .i64 (halfB a b) := by
  unfold halfB bits
  exact wrap_has _ _
theorem unpB_has : ∀ l : List UInt8, ∀ v ∈ unpB l, kHas .i64 v
  | [], v, h => by simp [unpB] at h
  | [a], v, h => by
    simp only [unpB, List.mem_cons, List.not_mem_nil, or_false] at h
    subst h
    exact wrap_has _ _
  | a :: b :: r, v, h => by
    simp only [unpB, List.mem_cons] at h
    rcases h with rfl | h
    · exact halfB_has a b
    · exact unpB_has r v h

/-- A number is appended to numbers of the call's own, where the order is drawn. -/
theorem step_app_int (w0 w1 : World) {ops : Array Oper} {o : Oper} {a : Act} {K : Act → World → Prop} {Q : Exit → Act → World → Prop} {E : Prop} (hgd : o.guard = none) (s x : Operand)
    (ho : o.op = .call { callee := .builtin .append, args := #[s, x], argTypes := #[30, 30] }) (base : Nat) (hbase : base ≤ w0.heap.size) (l : List Int) (b : Int) (hlen : l.length ≤ 5000000000)
    (v : Value) (hs : a.eval s = v) (hown : w0.ownsRow base 3 1 v l.length (encI l)) (g : Nat) (hx : a.eval x = .slice (some ⟨g, 0, none⟩) 1 1) (hg : g = w0.heap.size) (hw1 : w1 = w0.alloc (.cells #[.int .i64 b] 3))
    (h : ∀ v' w', w'.ownsRow base 3 1 v' (l ++ [b]).length (encI (l ++ [b])) → Below base w0 w' → K (a.put o.dst v') w') :
    if Region.wanted o (yielded ops a.tmps) = true then Oper.wp Tryd.prog o a w1 K Q else E := by
  subst hg hw1
  obtain ⟨i0, hi0, hz0, hz1, hz2⟩ := info_parts intInfo
  refine step_append_lies _ hgd s x 30 ho base 3 i0 _ 1 8 Tryd.underlying30 hi0 hz0 hz1 hz2 rfl (by decide) v l.length (encI l) hs (hown.alloc _) ⟨w0.heap.size, 0, none⟩ 1 1 [.int .i64 b] hx rfl (one_new _ _ _)
    (fun u hu => by simp at hu; subst hu; rfl) (by decide) (by unfold maxLen; omega) (by omega) (by simp; omega) _ rfl ?_
  intro g cap w' hown' hgrow _ _
  refine h _ w' (by rw [encI_snoc]; simpa using hown') ?_
  exact ((Below.refl base w0).alloc hbase _).grown hgrow (by simp; omega) (fun j hj => (hown.lt _ hj).1)

theorem own_out {w : World} {base : Nat} {v : Value} {l : List Int} (h : w.ownsRow base 3 1 v l.length (encI l)) : ∃ A cap, v = .slice A l.length cap ∧ IAt w w.heap.size A l ∧ l.length ≤ cap := by
  rcases h.2 with ⟨hv, h0⟩ | ⟨g, cap, cur, hv, hb, hh, hc, _⟩
  · obtain rfl := List.eq_nil_of_length_eq_zero h0
    exact ⟨none, 0, hv, IAt.nil _ _ _, Nat.zero_le _⟩
  · subst hv
    exact ⟨_, cap, rfl, IAt.of_own h, hc⟩

set_option maxRecDepth 100000 in
set_option maxHeartbeats 1000000 in
theorem unpack_any (s : ByteArray) (w : World) (hs : s.size ≤ 4000000000) :
    Calls Tryd.prog 16 #[.string s] w fun e w' => ∃ A cap, e = .returned (.slice A (unpB s.data.toList).length cap) ∧ IAt w' w'.heap.size A (unpB s.data.toList) ∧ (unpB s.data.toList).length ≤ cap ∧ Below w.heap.size w w' := by
  go_enter Tryd.func16, Tryd.ntmps16
  go_wp2
  go_loopw [0, 3] (fun t v wr => ∃ (b : ByteArray) (pre : List Int), t = .string b ∧ unpB s.data.toList = pre ++ unpB b.data.toList ∧ b.size ≤ s.size ∧ wr.ownsRow w.heap.size 3 1 v pre.length (encI pre) ∧ Below w.heap.size w wr) (fun t _ _ => match t with | .string b => b.size | _ => 0)
  case atStart => exact ⟨s, [], rfl, rfl, Nat.le_refl _, World.ownsRow_nil _ _ _ _, Below.refl _ _⟩
  case round =>
    obtain ⟨b, pre, rfl, hp, hbs, hown, hbr⟩ := hrel
    have hpl : pre.length ≤ s.size := by
      have := congrArg List.length hp
      rw [List.length_append] at this
      have h2 := unpB_len s.data.toList
      have h3 : s.data.toList.length = s.size := rfl
      omega
    have HP := Lib.hid hp
    clear hp
    by_cases h1 : 1 < b.size
    · have e1 : decide ((1 : Int) < (b.size : Int)) = true := decide_eq_true (by omega)
      have h0 : (0 : Nat) < b.size := by omega
      go_wp2_with fail
      go_region_held_law (fun _ => True) (trivial) (first | (refine step_app_int wr.drew _ rfl _ _ rfl w.heap.size hbr.size pre _ (by omega) _ rfl hown _ rfl rfl rfl ?_; intro v2 w2 hown2 hb2))
      go_wp2
      all_goals
        have hsz : b.data.toList.length = b.size := rfl
        obtain ⟨p, q, r, hb⟩ : ∃ p q r, b.data.toList = p :: q :: r := by
          match hl : b.data.toList with
          | [] => rw [hl] at hsz; simp at hsz; omega
          | [_] => rw [hl] at hsz; simp at hsz; omega
          | p :: q :: r => exact ⟨p, q, r, rfl⟩
        have hbl : b.size = r.length + 2 := by rw [← hsz, hb]; rfl
        have hx : (b.extract 2 b.size).data.toList = r := by
          rw [Lib.extract_data, hb, hbl]
          simp
        have hxs : (b.extract 2 b.size).size = r.length := by
          rw [← hx]; rfl
        have x0 : b[0] = p := by
          show b.data[0] = p
          rw [← Array.getElem_toList]; simp [hb]
        have x1 : b[1] = q := by
          show b.data[1] = q
          rw [← Array.getElem_toList]; simp [hb]
        refine ⟨⟨_, _, rfl, ?_, ?_, hown2, hbr.drew.trans hb2⟩, ?_⟩
        · rw [hx, HP.out, hb, x0, x1, List.append_assoc]; rfl
        · omega
        · show (b.extract 2 b.size).size < b.size
          omega
    · have e1 : decide ((1 : Int) < (b.size : Int)) = false := decide_eq_false (by omega)
      by_cases h2 : b.size = 1
      · have e2 : ((b.size : Int) == 1) = true := by rw [h2]; rfl
        have h0 : (0 : Nat) < b.size := by omega
        go_wp2_with (at_builtin; refine app_int wr rfl _ _ rfl w.heap.size hbr.size pre (wrap64 (b[0].toNat : Int)) (by omega) _ rfl ?_ _ rfl rfl ?_; exact hown; intro v2 w2 hown2 hb2)
        have hsz : b.data.toList.length = b.size := rfl
        obtain ⟨p, hb⟩ : ∃ p, b.data.toList = [p] := by
          match hl : b.data.toList with
          | [] => rw [hl] at hsz; simp at hsz; omega
          | [p] => exact ⟨p, rfl⟩
          | p :: q :: r => rw [hl] at hsz; simp at hsz; omega
        have x0 : b[0] = p := by
          show b.data[0] = p
          rw [← Array.getElem_toList]; simp [hb]
        have hfin : unpB s.data.toList = pre ++ [wrap64 (b[0].toNat : Int)] := by
          rw [HP.out, hb, x0, ← IntWalk.i64_left]; rfl
        rw [hfin]
        obtain ⟨A, cap, rfl, hA, hc⟩ := own_out hown2
        exact bodyPost_ret (results_tmp rfl _ _ _) rfl ⟨A, cap, rfl, hA, hc, hbr.trans hb2⟩
      · have e2 : ((b.size : Int) == 1) = false := by simpa using fun h => h2 (by omega)
        go_wp2_with fail
        have hb : b.data.toList = [] := by
          have hsz : b.data.toList.length = b.size := rfl
          exact List.eq_nil_of_length_eq_zero (by omega)
        have hfin : unpB s.data.toList = pre := by
          rw [HP.out, hb]; exact List.append_nil _
        rw [hfin]
        obtain ⟨A, cap, rfl, hA, hc⟩ := own_out hown
        exact bodyPost_ret (results_tmp rfl _ _ _) rfl ⟨A, cap, rfl, hA, hc, hbr⟩
#print axioms unpack_any
end Go.Proofs.YtiicniiecomhjaaDoor
