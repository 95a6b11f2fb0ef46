/- For the seat: a law that answers true and only makes new memory meets its row; and what its laid variables give the walk. -/
import Derived.Test.YtkfilbcmllfgdaaGreatDoorGBase
import Derived.Test.YtkfilbcmllfgdaaGreatDoorTie
import Derived.Test.YtkfilbcmllfgdaaGreatDoorCards
import Derived.Carry
import Derived.ProofKit
import Derived.OpenShut
import Derived.Deep.Slices
import Derived.ChangeVars
import Derived.JoinedOf
import Derived.SevenTiedAt
import Derived.Lay
import Derived.LaidMore
import Derived.Stop.Joined
import Derived.Stop.LaidErr
import Derived.Lib.LaidTab
namespace Go.Proofs.YtkfilbcmllfgdaaGreatDoor
open Go.Sx Go.ChangeShapes Go.WideShapes Go.RowKit Go.Joins Go.Deep

section
variable {H : Type} {enc : TypeId × Value → H}

set_option maxRecDepth 100000 in
theorem trodAll_below {P : Program} (hl : laidOutB P = true) {W W' : World} (hb : Below W.heap.size W W') :
    ∀ {ts : List TypeId} {vs : List Value} {ds : List (DataW H)} {ps : List MemPlace}, (∀ t ∈ ts, P.readableRec t = true ∧ t < P.types.size) →
      DataW.TrodAll enc P W 0 (fun _ => true) true ts vs ds ps → (∀ x ∈ ps, x.block < W.heap.size) → DataW.TrodAll enc P W' 0 (fun b => decide (b < W.heap.size)) true ts vs ds ps
  | [], _, _, _, _, h, _ => by
    obtain ⟨rfl, rfl, rfl⟩ := trodAll_nil h
    exact trodAll_mk0
  | t :: ts, _, _, _, hr, h, hlt => by
    obtain ⟨v, vs, d, ds, p, q, rfl, rfl, rfl, h0, r0⟩ := trodAll_cons h
    have ht := hr t (by simp)
    exact trodAll_cons_mk (Below.trod hl ht.1 ht.2 h0 hb (fun x hx => hlt x (by simp [hx]))) (trodAll_below hl hb (fun u hu => hr u (by simp [hu])) r0 (fun x hx => hlt x (by simp [hx])))

set_option maxRecDepth 100000 in
/-- A law's row: it answers true, and makes new memory alone. -/
theorem law_post {P : Program} (hl : laidOutB P = true) {f : Func} {s : ChangeSpec} {tb : TypeId} {W W' : World} {args : Array Value} {ds gs : List (DataW H)} {before : List MemPlace}
    (hs : s.vars = []) (hr : ∀ t ∈ f.params.toList, P.readableRec t = true ∧ t < P.types.size) (hW : DataW.Whole enc P f.params.toList s.vars false W args.toList ds gs before)
    (hb : Below W.heap.size W W') (ht : f.resultTypes = #[tb]) (hbool : P.underlying tb = some .bool) (hfn : s.fn H ds = { results := [.lit (.bool true)], args := ds }) :
    s.post enc P f false true false false W args (.bool true) W' := by
  have hlt := hW.lt
  have hW' := hW
  obtain ⟨p, q, hA, hV, rfl, _, _⟩ := hW
  rw [hs] at hV
  obtain ⟨rfl, rfl⟩ := trodVars_none hV
  refine ⟨ds, [], p ++ [], [], p, [], hW', ?_, ?_, ?_, ?_, fun h => by cases h⟩
  · rw [List.append_nil, hfn, ht]
    exact trodAll_mk1 (shut_bool hbool true)
  · rw [List.append_nil, hfn]
    exact trodAll_below hl hb hr hA (fun x hx => hlt x (by simp [hx]))
  · rw [List.append_nil, hfn, hs]
    rfl
  · exact hb.frame _

end

def spaceZ : List Int := (List.range 256).map fun i => bif (Nat.ble 9 i && Nat.ble i 13) || Nat.beq i 32 then 1 else 0

set_option maxRecDepth 100000 in
theorem laidMet_drop {P : Program} {w : World} : ∀ {l : List (String × DataW Unit)} (k : Nat), laidMet P l w → laidMet P (l.drop k) w
  | _, 0, h => h
  | [], _ + 1, h => h
  | _ :: l, k + 1, h => laidMet_drop (l := l) k h.tail

set_option maxRecDepth 100000 in
/-- The laid variable, wherever on the list. -/
theorem space_of {l : List (String × DataW Unit)} (k : Nat) {W : World} (hp : (l.all fun x => x.2.handleName?.isNone) = true)
    (he : l.drop k = ("strings.asciiSpace", Lib.tabData .u8 spaceZ) :: l.drop (k + 1)) (h : laidMetH Tryz.prog l W) : gx.Laid W := by
  rw [MakeChecks.laidMetH_plain _ _ _ hp] at h
  have h1 := laidMet_drop k h
  rw [he] at h1
  have h2 := Lib.tabIs_of_head (P := Tryz.prog) (W := W) (n := 256) (g := 4) (t := 374) (e := 5) (by kernel_rfl) (by kernel_rfl) Tryz.underlying374 Tryz.underlying5 (by kernel_rfl) (by kernel_rfl) h1
  unfold Lib.TabIs World.var? at h2
  rw [show Tryz.prog.globalNamed "strings.asciiSpace" = some 4 by kernel_rfl, Option.bind_some] at h2
  revert h2
  split
  · rename_i cs t fz hc
    intro h2
    obtain rfl := Option.some.inj h2
    exact ⟨_, _, _, hc, by
      rw [List.toList_toArray]
      exact (by kernel_rfl : spaceZ.map (fun z => Value.int .u8 z) = gx.spaceC)⟩
  · intro h2
    cases h2

set_option maxRecDepth 100000 in
theorem laidOutQ : laidOutB Tryz.prog = true := by kernel_rfl
end Go.Proofs.YtkfilbcmllfgdaaGreatDoor
