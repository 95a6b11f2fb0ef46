/- For the seat: texts joined: LaidW, LyE, LyF, RqL, RqM. -/
import Derived.Test.YtpdkpkabdkefcaaGreatDoorJAa
import Derived.ChangeVars
import Derived.Test.YtpdkpkabdkefcaaGreatDoorJAn
import Derived.Test.YtpdkpkabdkefcaaGreatDoorJAj
import Derived.Test.YtpdkpkabdkefcaaGreatDoorJAm
set_option maxRecDepth 100000
namespace Go.Proofs.YtpdkpkabdkefcaaGreatDoor
open Go.Sx Go.ChangeShapes Go.WideShapes Go.RowKit Go.Joins Go.Deep
noncomputable def laidWorld (os : Os) : World :=
  { World.holding Tryz.prog os ⟨#[], #[], []⟩ with heap := (World.holding Tryz.prog os ⟨#[], #[], []⟩).heap.modify 0 fun
      | .cells _ t frozen => .cells cells12 t frozen
      | o => o }
theorem laid_met (W : World) (h0 : W.heap[0]? = some (.cells cells12 110 (0, 0))) : laidMet Tryz.prog [("cartouche/offs.kinds", Rows.laid_cartouche_offs_kinds)] W := by
  refine ⟨_, ⟨0, 110, cells12, 8, [], [], by kernel_rfl, by kernel_rfl, ?_, by kernel_rfl, rfl, rfl⟩, by decide, fun b off h => ?_⟩
  · simp only [World.var?, kindsG, Option.bind_some, h0]
  · have h' : MemPlace.cell b off ∈ [MemPlace.cell 0 0, .cell 0 1, .cell 0 2, .cell 0 3, .cell 0 4, .cell 0 5, .cell 0 6, .cell 0 7, .cell 0 8, .cell 0 9, .cell 0 10, .cell 0 11] := h
    have hb : b = 0 := by
      simp at h'
      omega
    subst hb
    refine ⟨⟨_, _, h0⟩, fun u v hc => ?_⟩
    simp only [World.cell?, h0] at hc
    simp at h'
    rcases h' with rfl | rfl | rfl | rfl | rfl | rfl | rfl | rfl | rfl | rfl | rfl | rfl <;> simp [cells12] at hc
end Go.Proofs.YtpdkpkabdkefcaaGreatDoor
namespace Go.Proofs.YtpdkpkabdkefcaaGreatDoor
open Go.Rp
def okF (f : Int) : Prop := 0 ≤ f ∧ f ≤ 2
theorem nextY_bd (y : Lw) (b : Bool) {f : Int} (h : okF f) : f ≤ nextY y b f ∧ okF (nextY y b f) := by
  obtain ⟨h1, h2⟩ := h
  unfold nextY okF
  split
  · omega
  split <;> omega
theorem growY_bd (L : List Lw) (I : List Bool) (P : List (List Int)) (V A : List Int) (i : Nat) (y : Lw) {f : Int} (h : okF f) : f ≤ growY L I P V A i y f ∧ okF (growY L I P V A i y f) := by
  unfold growY
  split
  · split
    · exact ⟨Int.le_refl _, h⟩
    · split
      · exact ⟨Int.le_refl _, h⟩
      · exact nextY_bd _ _ h
  · exact ⟨Int.le_refl _, h⟩
def roomF : List Int → Nat
  | [] => 0
  | f :: r => (2 - f).toNat + roomF r
theorem roomF_le : ∀ (F : List Int), (∀ f ∈ F, okF f) → roomF F ≤ 2 * F.length
  | [], _ => by simp [roomF]
  | f :: r, h => by
    have h1 := h f (by simp)
    have := roomF_le r (fun x hx => h x (by simp [hx]))
    unfold okF at h1
    simp only [roomF, List.length_cons]
    omega
theorem roomF_lt : ∀ (F G : List Int), F.length = G.length → (∀ f ∈ F, okF f) → (∀ (i : Nat) (h1 : i < F.length) (h2 : i < G.length), F[i] ≤ G[i] ∧ okF G[i]) → roomF G ≤ roomF F ∧ (F ≠ G → roomF G < roomF F)
  | [], [], _, _, _ => ⟨Nat.le_refl _, fun h => absurd rfl h⟩
  | [], _ :: _, h, _, _ => by simp at h
  | _ :: _, [], h, _, _ => by simp at h
  | f :: r, g :: s, hl, hF, hG => by
    obtain ⟨i1, i2⟩ := roomF_lt r s (by simpa using hl) (fun x hx => hF x (by simp [hx])) (fun i h1 h2 => by have := hG (i + 1) (by simpa using h1) (by simpa using h2); simpa using this)
    have h0 := hG 0 (by simp) (by simp)
    have hf := hF f (by simp)
    simp only [List.getElem_cons_zero] at h0
    unfold okF at h0 hf
    simp only [roomF]
    refine ⟨by omega, fun hne => ?_⟩
    by_cases e : f = g
    · have : r ≠ s := fun e2 => hne (by rw [e, e2])
      have := i2 this
      omega
    · omega
section
variable (L : List Lw) (I : List Bool) (P : List (List Int)) (V : List Int)
theorem growL_ok {F : List Int} (hl : F.length = L.length) (hF : ∀ f ∈ F, okF f) : (∀ f ∈ growL L I P V F, okF f) ∧ ∀ (i : Nat) (h1 : i < F.length) (h2 : i < (growL L I P V F).length), F[i] ≤ (growL L I P V F)[i] ∧ okF (growL L I P V F)[i] := by
  have key : ∀ (i : Nat) (h1 : i < F.length) (h2 : i < (growL L I P V F).length), F[i] ≤ (growL L I P V F)[i] ∧ okF (growL L I P V F)[i] := by
    intro i h1 h2
    have hg := growL_get L I P V F (show i < L.length by omega)
    rw [List.getD_eq_getElem?_getD, List.getElem?_eq_getElem h2, List.getD_eq_getElem?_getD, List.getElem?_eq_getElem h1] at hg
    simp only [Option.getD_some] at hg
    rw [hg]
    exact growY_bd L I P V _ i _ (hF _ (List.getElem_mem h1))
  refine ⟨fun f hf => ?_, key⟩
  obtain ⟨i, hi, rfl⟩ := List.getElem_of_mem hf
  have h2 := hi
  rw [growL_len] at hi
  exact (key i (by omega) h2).2
theorem grow_room {F : List Int} (hl : F.length = L.length) (hF : ∀ f ∈ F, okF f) (hne : growL L I P V F ≠ F) : roomF (growL L I P V F) < roomF F :=
  (roomF_lt F (growL L I P V F) (by rw [growL_len, hl]) hF (growL_ok L I P V hl hF).2).2 (fun e => hne e.symm)
theorem solveF_ends : ∀ (k : Nat) (F : List Int), F.length = L.length → (∀ f ∈ F, okF f) → roomF F < k →
    growL L I P V (solveF L I P V k F).1 = (solveF L I P V k F).1 ∧ 1 ≤ (solveF L I P V k F).2 ∧ (solveF L I P V k F).2 ≤ roomF F + 1 ∧ (solveF L I P V k F).1.length = L.length ∧ (∀ f ∈ (solveF L I P V k F).1, okF f) ∧ ∀ i, F.getD i 0 ≤ (solveF L I P V k F).1.getD i 0
  | 0, _, _, _, h => by omega
  | k + 1, F, hl, hF, h => by
    rw [solveF]
    split
    · rename_i e
      exact ⟨e, Nat.le_refl _, by omega, hl, hF, fun i => Int.le_refl _⟩
    · rename_i e
      have hr := grow_room L I P V hl hF e
      obtain ⟨h1, h2⟩ := growL_ok L I P V hl hF
      obtain ⟨i1, i2, i3, i4, i5, i6⟩ := solveF_ends k (growL L I P V F) (growL_len _ _ _ _ _) h1 (by omega)
      refine ⟨i1, by omega, by omega, i4, i5, fun i => Int.le_trans ?_ (i6 i)⟩
      by_cases hi : i < F.length
      · have := (h2 i hi (by rw [growL_len]; omega)).1
        rw [List.getD_eq_getElem?_getD, List.getElem?_eq_getElem hi, List.getD_eq_getElem?_getD, List.getElem?_eq_getElem (by rw [growL_len]; omega)]
        exact this
      · rw [List.getD_eq_getElem?_getD, List.getElem?_eq_none (by omega), List.getD_eq_getElem?_getD, List.getElem?_eq_none (by rw [growL_len]; omega)]
        exact Int.le_refl _
theorem solveF_more : ∀ (k : Nat) (F : List Int), F.length = L.length → (∀ f ∈ F, okF f) → roomF F < k → ∀ m, solveF L I P V (k + m) F = solveF L I P V k F
  | 0, _, _, _, h, _ => by omega
  | k + 1, F, hl, hF, h, m => by
    rw [show k + 1 + m = (k + m) + 1 by omega, solveF, solveF]
    split
    · rfl
    · rename_i e
      have hr := grow_room L I P V hl hF e
      rw [solveF_more k (growL L I P V F) (growL_len _ _ _ _ _) (growL_ok L I P V hl hF).1 (by omega) m]
end
theorem startF_ok (can : Lw → Bool → Bool) (y : Lw) (b : Bool) : okF (startF can y b) := by
  unfold startF okF
  repeat' split
  all_goals omega
theorem startL_ok (can : Lw → Bool → Bool) : ∀ (L : List Lw) (I : List Bool), ∀ f ∈ startL can L I, okF f
  | [], _, f, h => by simp [startL] at h
  | _ :: _, [], f, h => by simp [startL] at h
  | y :: r, b :: s, f, h => by
    simp only [startL, List.mem_cons] at h
    rcases h with rfl | h
    · exact startF_ok can y b
    · exact startL_ok can r s f h
theorem startL_len (can : Lw → Bool → Bool) : ∀ (L : List Lw) (I : List Bool), I.length = L.length → (startL can L I).length = L.length
  | [], [], _ => rfl
  | [], _ :: _, h => by simp at h
  | _ :: _, [], h => by simp at h
  | y :: r, b :: s, h => by simp only [startL, List.length_cons]; rw [startL_len can r s (by simpa using h)]
end Go.Proofs.YtpdkpkabdkefcaaGreatDoor
namespace Go.Proofs.YtpdkpkabdkefcaaGreatDoor
open Go.Rp
theorem condsL_snoc : ∀ (L : List Lw) (left : List Int), condsL (L ++ [lw0]) left = condsL L left ++ [-1]
  | [], left => rfl
  | y :: r, left => by rw [List.cons_append, condsL_cons, condsL_cons, condsL_snoc r, List.cons_append]
theorem insideL_snoc (L : List Lw) : insideL (L ++ [lw0]) = insideL L ++ [false] := by
  unfold insideL
  rw [condsL_snoc, List.map_append]; rfl
theorem startL_snoc (can : Lw → Bool → Bool) : ∀ (L : List Lw) (I : List Bool), I.length = L.length → startL can (L ++ [lw0]) (I ++ [false]) = startL can L I ++ [0]
  | [], [], _ => rfl
  | [], _ :: _, h => by simp at h
  | _ :: _, [], h => by simp at h
  | y :: r, b :: s, h => by
    simp only [List.cons_append, startL]
    rw [startL_snoc can r s (by simpa using h)]
theorem lineSz0 (P : List (List Int)) (f a : Int) (n : Nat) : lineSz P lw0 f a n = 0 := rfl
theorem sizesF_snoc (P : List (List Int)) : ∀ (L : List Lw) (F : List Int) (a : Int) (n : Nat), F.length = L.length → ∃ S e, sizesF P L F a n = S ++ [e] ∧ sizesF P (L ++ [lw0]) (F ++ [0]) a n = S ++ [0, e] ∧ S.length = L.length
  | [], [], a, n, _ => ⟨[], poolSz (P.getD n []) a, rfl, by
      rw [List.nil_append, List.nil_append, sizesF, sizesF, lineSz0]
      simp [nextN, lw0], rfl⟩
  | [], _ :: _, _, _, h => by simp at h
  | _ :: _, [], _, _, h => by simp at h
  | y :: r, f :: s, a, n, h => by
    obtain ⟨S, e, h1, h2, h3⟩ := sizesF_snoc P r s (a + lineSz P y f a n) (nextN y n) (by simpa using h)
    refine ⟨lineSz P y f a n :: S, e, ?_, ?_, by simp [h3]⟩
    · rw [sizesF]; simp only [List.headD_cons, List.tail_cons]; rw [h1]; rfl
    · rw [List.cons_append, List.cons_append, sizesF]; simp only [List.headD_cons, List.tail_cons]; rw [h2]; rfl
theorem addrF_snoc : ∀ (L : List Lw) (S : List Int) (e a : Int), S.length = L.length → ∃ A z, addrF L (S ++ [e]) a = A ++ [z] ∧ addrF (L ++ [lw0]) (S ++ [0, e]) a = A ++ [z, z] ∧ A.length = L.length
  | [], [], e, a, _ => ⟨[], a, rfl, by simp [addrF], rfl⟩
  | [], _ :: _, _, _, h => by simp at h
  | _ :: _, [], _, _, h => by simp at h
  | y :: r, x :: s, e, a, h => by
    obtain ⟨A, z, h1, h2, h3⟩ := addrF_snoc r s e (a + max x 0) (by simpa using h)
    refine ⟨a :: A, z, ?_, ?_, by simp [h3]⟩
    · rw [List.cons_append, addrF]; simp only [List.headD_cons, List.tail_cons]; rw [h1]; rfl
    · rw [List.cons_append, List.cons_append, addrF]; simp only [List.headD_cons, List.tail_cons]; rw [h2]; rfl
theorem addrL_snoc (P : List (List Int)) (L : List Lw) (F : List Int) (h : F.length = L.length) : ∃ A z, addrL L F P = A ++ [z] ∧ addrL (L ++ [lw0]) (F ++ [0]) P = A ++ [z, z] ∧ A.length = L.length := by
  obtain ⟨S, e, h1, h2, h3⟩ := sizesF_snoc P L F 0 0 h
  obtain ⟨A, z, k1, k2, k3⟩ := addrF_snoc L S e 0 h3
  exact ⟨A, z, by rw [addrL, h1, k1], by rw [addrL, h2, k2], k3⟩
theorem ofN_snoc : ∀ (L : List Lw) (i : Nat), i ≤ L.length → ofN (L ++ [lw0]) i = ofN L i
  | [], 0, _ => rfl
  | [], i + 1, h => by simp at h
  | y :: r, 0, _ => rfl
  | y :: r, i + 1, h => by rw [List.cons_append, ofN, ofN, ofN_snoc r i (by simpa using h)]
theorem placeN_le : ∀ L : List Lw, placeN L ≤ L.length
  | [] => Nat.le_refl _
  | y :: r => by
    rw [placeN]
    have := placeN_le r
    split
    · simp
    · simp; exact this
theorem placeN_snoc : ∀ L : List Lw, placeN (L ++ [lw0]) = placeN L ∨ placeN L = L.length ∧ placeN (L ++ [lw0]) = L.length + 1
  | [] => .inr ⟨rfl, rfl⟩
  | y :: r => by
    rw [List.cons_append, placeN, placeN]
    split
    · exact .inl rfl
    · rcases placeN_snoc r with h | ⟨h1, h2⟩
      · exact .inl (by rw [h])
      · exact .inr ⟨by rw [h1]; rfl, by rw [h2]; rfl⟩
theorem labN_snoc (name : Bs) : ∀ L : List Lw, labN name (L ++ [lw0]) = labN name L
  | [] => by
    have h : ¬ (name ≠ [] ∧ lw0.lab = name) := fun h => h.1 h.2.symm
    simp only [List.nil_append, labN, if_neg h, Option.map_none]
  | y :: r => by
    rw [List.cons_append, labN, labN, labN_snoc name r]
theorem labN_lt (name : Bs) : ∀ (L : List Lw) (t : Nat), labN name L = some t → t < L.length
  | [], t, h => by simp [labN] at h
  | y :: r, t, h => by
    rw [labN] at h
    split at h
    · simp at h; subst h; simp
    · rw [Option.map_eq_some_iff] at h
      obtain ⟨t', h1, rfl⟩ := h
      have := labN_lt name r t' h1
      simp; omega
theorem getD_snoc2 (A : List Int) (z : Int) {i : Nat} (hi : i ≤ A.length) : (A ++ [z, z]).getD i 0 = (A ++ [z]).getD i 0 := by
  rw [List.getD_eq_getElem?_getD, List.getD_eq_getElem?_getD]
  by_cases h : i < A.length
  · rw [List.getElem?_append_left h, List.getElem?_append_left h]
  · obtain rfl : i = A.length := by omega
    rw [List.getElem?_append_right (Nat.le_refl _), List.getElem?_append_right (Nat.le_refl _)]
    simp
theorem getD_snocL (A : List Int) (z : Int) : (A ++ [z, z]).getD (A.length + 1) 0 = z ∧ (A ++ [z]).getD A.length 0 = z := by
  constructor
  · rw [List.getD_eq_getElem?_getD, List.getElem?_append_right (by omega)]
    simp
  · rw [List.getD_eq_getElem?_getD, List.getElem?_append_right (Nat.le_refl _)]
    simp
theorem offY_snoc (L : List Lw) (P : List (List Int)) (V A : List Int) (z : Int) (i : Nat) (hi : i < L.length) (hV : V.length = L.length) (hA : A.length = L.length) (y : Lw) (f : Int) :
    offY (L ++ [lw0]) P (V ++ [0]) (A ++ [z, z]) i y f = offY L P V (A ++ [z]) i y f := by
  have hV1 : (V ++ [0])[i]? = V[i]? := List.getElem?_append_left (by omega)
  have hp : (A ++ [z, z]).getD (i + placeN ((L ++ [lw0]).drop i)) 0 = (A ++ [z]).getD (i + placeN (L.drop i)) 0 := by
    rw [List.drop_append_of_le_length (by omega)]
    have hle := placeN_le (L.drop i)
    have hdl : (L.drop i).length = L.length - i := List.length_drop ..
    rcases placeN_snoc (L.drop i) with h | ⟨h1, h2⟩
    · rw [h]
      exact getD_snoc2 A z (by omega)
    · rw [h1, h2, show i + ((L.drop i).length + 1) = A.length + 1 by omega, show i + (L.drop i).length = A.length by omega, (getD_snocL A z).1, (getD_snocL A z).2]
  unfold offY
  dsimp only
  rw [hV1, hp, ofN_snoc L i (by omega), labN_snoc, getD_snoc2 A z (by omega)]
  split
  · rfl
  · split
    · rfl
    · rename_i t ht
      have := labN_lt _ _ _ ht
      rw [getD_snoc2 A z (by omega)]
theorem growL_snoc (L : List Lw) (I : List Bool) (P : List (List Int)) (V F : List Int) (hI : I.length = L.length) (hV : V.length = L.length) (hF : F.length = L.length) :
    growL (L ++ [lw0]) (I ++ [false]) P (V ++ [0]) (F ++ [0]) = growL L I P V F ++ [0] := by
  obtain ⟨A, z, h1, h2, h3⟩ := addrL_snoc P L F hF
  refine List.ext_getElem? fun i => ?_
  by_cases hi : i < L.length
  · rw [List.getElem?_append_left (by rw [growL_len]; exact hi), growL, growL, List.getElem?_map, List.getElem?_map, List.getElem?_range (by simp; omega), List.getElem?_range hi, h1, h2]
    simp only [Option.map_some]
    have e1 : (L ++ [lw0]).getD i lw0 = L.getD i lw0 := by rw [List.getD_eq_getElem?_getD, List.getElem?_append_left hi, ← List.getD_eq_getElem?_getD]
    have e2 : (F ++ [0]).getD i 0 = F.getD i 0 := by rw [List.getD_eq_getElem?_getD, List.getElem?_append_left (by omega), ← List.getD_eq_getElem?_getD]
    have e3 : (I ++ [false]).getD i false = I.getD i false := by rw [List.getD_eq_getElem?_getD, List.getElem?_append_left (by omega), ← List.getD_eq_getElem?_getD]
    unfold growY
    rw [e1, e2, e3, offY_snoc L P V A z i hi hV h3]
  · by_cases h : i = L.length
    · subst h
      rw [List.getElem?_append_right (by rw [growL_len]; exact Nat.le_refl _), growL_len, growL, List.getElem?_map, List.getElem?_range (by simp)]
      have e1 : (L ++ [lw0]).getD L.length lw0 = lw0 := by rw [List.getD_eq_getElem?_getD, List.getElem?_append_right (Nat.le_refl _)]; simp
      have e2 : (F ++ [0]).getD L.length 0 = 0 := by rw [List.getD_eq_getElem?_getD, List.getElem?_append_right (by omega), hF]; simp
      simp only [Option.map_some]
      rw [e1, e2, growY, if_neg (by decide)]
      simp
    · rw [List.getElem?_eq_none (by rw [growL_len]; simp; omega), List.getElem?_eq_none (by simp [growL_len]; omega)]
theorem solveF_snoc (L : List Lw) (I : List Bool) (P : List (List Int)) (V : List Int) (hI : I.length = L.length) (hV : V.length = L.length) : ∀ (k : Nat) (F : List Int), F.length = L.length →
    solveF (L ++ [lw0]) (I ++ [false]) P (V ++ [0]) k (F ++ [0]) = ((solveF L I P V k F).1 ++ [0], (solveF L I P V k F).2)
  | 0, _, _ => rfl
  | k + 1, F, hF => by
    rw [solveF, solveF, growL_snoc L I P V F hI hV hF]
    by_cases e : growL L I P V F = F
    · rw [if_pos e, if_pos (by rw [e])]
    · rw [if_neg e, if_neg (fun h => e (List.append_cancel_right h)), solveF_snoc L I P V hI hV k _ (growL_len _ _ _ _ _)]
def badY (L : List Lw) (I : List Bool) (P : List (List Int)) (V A : List Int) (i : Nat) (y : Lw) (f : Int) : Bool :=
  reachB y && (match offY L P V A i y f with | none => true | some o => !fitY y (I.getD i false) f o)
def firstBad (L : List Lw) (I : List Bool) (P : List (List Int)) (V A F : List Int) : Nat → List Lw → Option Nat
  | _, [] => none
  | i, y :: r => if badY L I P V A i y (F.getD i 0) then some i else firstBad L I P V A F (i + 1) r
def solveL (L : List Lw) (I : List Bool) (P : List (List Int)) (V F : List Int) : List Int × Int × Int × Int :=
  let G := (solveF L I P V (2 * L.length + 1) F).1
  let A := addrL L G P
  if 1048576 < A.getD L.length 0 + (sizesF P L G 0 0).getD L.length 0 then ([], 0, 2, 0)
  else match firstBad L I P V A G 0 L with
    | some i => ([], 0, 8, (i : Int) + 1)
    | none => (G, ((solveF L I P V (2 * L.length + 1) F).2 : Int), 0, 0)
theorem firstBad_snoc (L : List Lw) (I : List Bool) (P : List (List Int)) (V A G : List Int) (z : Int) (hI : I.length = L.length) (hV : V.length = L.length) (hA : A.length = L.length) (hG : G.length = L.length) : ∀ (M : List Lw) (i : Nat), i + M.length = L.length →
    firstBad (L ++ [lw0]) (I ++ [false]) P (V ++ [0]) (A ++ [z, z]) (G ++ [0]) i (M ++ [lw0]) = firstBad L I P V (A ++ [z]) G i M
  | [], i, _ => by
    rw [List.nil_append, firstBad, firstBad, firstBad, if_neg]
    unfold badY
    rw [show reachB lw0 = false from rfl, Bool.false_and]
    decide
  | y :: r, i, h => by
    have hi : i < L.length := by simp at h; omega
    rw [List.cons_append, firstBad, firstBad, firstBad_snoc L I P V A G z hI hV hA hG r (i + 1) (by simp at h; omega)]
    have e2 : (G ++ [0]).getD i 0 = G.getD i 0 := by rw [List.getD_eq_getElem?_getD, List.getElem?_append_left (by omega), ← List.getD_eq_getElem?_getD]
    have e3 : (I ++ [false]).getD i false = I.getD i false := by rw [List.getD_eq_getElem?_getD, List.getElem?_append_left (by omega), ← List.getD_eq_getElem?_getD]
    unfold badY
    rw [e2, e3, offY_snoc L P V A z i hi hV hA]
theorem solveL_snoc (can : Lw → Bool → Bool) (L : List Lw) (P : List (List Int)) (V : List Int) (hV : V.length = L.length) :
    let a := solveL L (insideL L) P V (startL can L (insideL L))
    let b := solveL (L ++ [lw0]) (insideL (L ++ [lw0])) P (V ++ [0]) (startL can (L ++ [lw0]) (insideL (L ++ [lw0])))
    b.2 = a.2 ∧ (a.2.2.1 = 0 → b.1 = a.1 ++ [0] ∧ a.1.length = L.length) := by
  have hI := insideL_len L
  have hS := startL_len can L (insideL L) hI
  have hSo := startL_ok can L (insideL L)
  dsimp only
  rw [insideL_snoc, startL_snoc can L _ hI]
  generalize insideL L = I at hI hS hSo
  generalize startL can L I = F at hS hSo
  have hroom := roomF_le F hSo
  unfold solveL
  dsimp only
  have hf : solveF (L ++ [lw0]) (I ++ [false]) P (V ++ [0]) (2 * (L ++ [lw0]).length + 1) (F ++ [0]) = ((solveF L I P V (2 * L.length + 1) F).1 ++ [0], (solveF L I P V (2 * L.length + 1) F).2) := by
    rw [solveF_snoc L I P V hI hV _ F hS, show 2 * (L ++ [lw0]).length + 1 = (2 * L.length + 1) + 2 by simp; omega, solveF_more L I P V _ F hS hSo (by omega)]
  have hG := (solveF_ends L I P V (2 * L.length + 1) F hS hSo (by omega)).2.2.2.1
  rw [hf]
  dsimp only
  generalize (solveF L I P V (2 * L.length + 1) F).1 = G at hG
  generalize (solveF L I P V (2 * L.length + 1) F).2 = N
  obtain ⟨A, z, h1, h2, h3⟩ := addrL_snoc P L G hG
  obtain ⟨S, e, k1, k2, k3⟩ := sizesF_snoc P L G 0 0 hG
  rw [h1, h2, k1, k2, firstBad_snoc L I P V A G z hI hV h3 hG L 0 (by omega)]
  have g1 : (A ++ [z, z]).getD (L ++ [lw0]).length 0 = z := by rw [show (L ++ [lw0]).length = A.length + 1 by simp; omega]; exact (getD_snocL A z).1
  have g2 : (A ++ [z]).getD L.length 0 = z := by rw [← h3]; exact (getD_snocL A z).2
  have g3 : (S ++ [0, e]).getD (L ++ [lw0]).length 0 = e := by
    rw [show (L ++ [lw0]).length = S.length + 1 by simp; omega, List.getD_eq_getElem?_getD, List.getElem?_append_right (by omega)]; simp
  have g4 : (S ++ [e]).getD L.length 0 = e := by
    rw [← k3, List.getD_eq_getElem?_getD, List.getElem?_append_right (Nat.le_refl _)]; simp
  rw [g1, g2, g3, g4]
  split
  · exact ⟨rfl, fun h => by simp at h⟩
  split
  · exact ⟨rfl, fun h => by simp at h⟩
  · exact ⟨rfl, fun _ => ⟨rfl, hG⟩⟩
end Go.Proofs.YtpdkpkabdkefcaaGreatDoor
namespace Go.Proofs.YtpdkpkabdkefcaaGreatDoor
open Go.Sx Go.ChangeShapes Go.WideShapes Go.RowKit Go.Joins Go.Deep Go.Rp
theorem results_cell_row3d {P : Program} {fn : Func} {p u v : Tmp} {ty : TypeId} (h : fn.results = #[.cell p ty, .tmp u, .tmp v]) (tmps : Array Value) (w : World) (g : Nat) (t : TypeId) (cs : Array Value) (fr : Nat × Nat) (d : TypeDesc)
    (hp : tmps.getD p undef = .pointer (some ⟨g, 0, none⟩)) (hg : w.heap[g]? = some (.cells cs t fr))
    (hu : P.underlying ty = some d) (hd : (match d with | .struct _ | .array _ _ => true | _ => false) = true) (hi : (P.info? ty).map (·.size) = some cs.size) :
    (results fn tmps).run P w = .ok (.tuple #[.agg cs, tmps.getD u undef, tmps.getD v undef]) w := by
  have hp' : tmps[p]?.getD undef = .pointer (some ⟨g, 0, none⟩) := by simpa using hp
  simp [results, h, hp', asAddr, run_loadVar_row w g t ty cs fr d hg hu hd hi]
def DirPost (R : Lw × Bool × Int) (w : World) (e : Ending) (w' : World) : Prop :=
  ∃ e0 e1 e2 e3, e = .returned (.tuple #[.agg (lwC R.1 e0 e1 e2 e3), .bool R.2.1, .int .i64 R.2.2]) ∧ ExAt w' (fun q => w.heap.size ≤ q ∧ q < w'.heap.size) R.1.ex (.agg #[e0, e1, e2, e3]) ∧ Below w.heap.size w w'
theorem finD_bad {T : List Tok} {i : Nat} {e : Int} {y : Lw} (h : e ≠ 0) : finD T (⟨i, e⟩, y) = (lw0, true, e) := by
  have he : endE T ⟨i, e⟩ = e := by unfold endE; rw [if_neg (fun k => h k.1)]
  unfold finD
  rw [he, if_neg h]
theorem finD_end {T : List Tok} {i : Nat} {y : Lw} (h : i ≠ T.length) : finD T (⟨i, 0⟩, y) = (lw0, true, 3) := by
  have he : endE T ⟨i, 0⟩ = 3 := by unfold endE; rw [if_pos ⟨rfl, h⟩]
  unfold finD
  rw [he, if_neg (by decide)]
theorem finD_ok {T : List Tok} {y : Lw} : finD T (⟨T.length, 0⟩, y) = (y, true, 0) := by
  have he : endE T ⟨T.length, 0⟩ = 0 := by unfold endE; rw [if_neg (fun k => k.2 rfl)]
  unfold finD
  rw [he, if_pos rfl]
section
variable {T : List Tok} {b g : Nat} {A : Option Addr} {cap : Nat} {w0 w : World} {p : Fs}
theorem Fill.setErr (F : Fill T b g A cap w0 w p) (hbg : b < g) (c : Int) : Fill T b g A cap w0 (w.setCell ⟨b, 2, none⟩ (.int .i64 c)) (⟨p.1.i, c⟩, p.2) := by
  have hs : Stay b w (w.setCell ⟨b, 2, none⟩ (.int .i64 c)) := Stay.set _ _ _
  exact ⟨F.rd.set2 c, F.ln.stay hs hbg, F.inn, F.st.trans (Stay2.of hs)⟩
theorem Fill.setAt (F : Fill T b g A cap w0 w p) (hbg : b < g) (j : Nat) (hj : j ≤ T.length) : Fill T b g A cap w0 (w.setCell ⟨b, 1, none⟩ (.int .i64 (j : Int))) (⟨j, p.1.e⟩, p.2) := by
  have hs : Stay b w (w.setCell ⟨b, 1, none⟩ (.int .i64 (j : Int))) := Stay.set _ _ _
  exact ⟨F.rd.set1 j, F.ln.stay hs hbg, hj, F.st.trans (Stay2.of hs)⟩
theorem Fill.name (F : Fill T b g A cap w0 w p) (hbg : b < g) (hT : T.length ≤ 900000) (hT2 : ∀ t ∈ T, t.t.length ≤ 1000000000000) :
    Calls Tryz.prog 107 #[.pointer (some ⟨b, 0, none⟩)] w (FillV T b g A cap w0 (.string (tx (nameV T p.1))) (nameT T p.1, p.2)) :=
  (name18 F.rd (F.le hT) hT2).mono fun _ _ h => ⟨h.1, F.step hbg h.2.1 (nameT_in F.inn) h.2.2⟩
theorem LwAt.c1214 {y : Lw} (h : LwAt w g y) : w.cell? ⟨g, 12, none⟩ = some (.string (tx y.ref)) ∧ w.cell? ⟨g, 14, none⟩ = some (.int .i64 y.sz) := by
  obtain ⟨_, _, _, _, h, _⟩ := h
  simp [World.cell?, h]
end
end Go.Proofs.YtpdkpkabdkefcaaGreatDoor
namespace Go.Proofs.YtpdkpkabdkefcaaGreatDoor
open Go.Sx Go.ChangeShapes Go.WideShapes Go.RowKit Go.Joins Go.Deep Go.Rp
section
variable {T : List Tok} {b g : Nat} {A : Option Addr} {cap : Nat} {w0 w : World} {j er : Int}
structure FillE (T : List Tok) (b g : Nat) (A : Option Addr) (cap : Nat) (w0 w : World) (j er : Int) : Prop where
  rd : Rd18 w b A cap T j er
  ln : ∃ y, LwAt w g y
  st : Stay2 b g w0 w
theorem Fill.toE {p : Fs} (F : Fill T b g A cap w0 w p) : FillE T b g A cap w0 w (p.1.i : Int) p.1.e := ⟨F.rd, ⟨_, F.ln⟩, F.st⟩
theorem FillE.setErr (F : FillE T b g A cap w0 w j er) (hbg : b < g) (c : Int) : FillE T b g A cap w0 (w.setCell ⟨b, 2, none⟩ (.int .i64 c)) j c := by
  have hs : Stay b w (w.setCell ⟨b, 2, none⟩ (.int .i64 c)) := Stay.set _ _ _
  obtain ⟨y, hl⟩ := F.ln
  exact ⟨F.rd.set2 c, ⟨y, hl.stay hs hbg⟩, F.st.trans (Stay2.of hs)⟩
theorem FillE.setAt (F : FillE T b g A cap w0 w j er) (hbg : b < g) (c : Int) : FillE T b g A cap w0 (w.setCell ⟨b, 1, none⟩ (.int .i64 c)) c er := by
  have hs : Stay b w (w.setCell ⟨b, 1, none⟩ (.int .i64 c)) := Stay.set _ _ _
  obtain ⟨y, hl⟩ := F.ln
  exact ⟨F.rd.set1 c, ⟨y, hl.stay hs hbg⟩, F.st.trans (Stay2.of hs)⟩
theorem FillE.below (F : FillE T b g A cap w0 w j er) (hbg : b < g) {w' : World} (hb : Below w.heap.size w w') : FillE T b g A cap w0 w' j er := by
  have hs : Stay b w w' := Stay.of_below hb
  obtain ⟨y, hl⟩ := F.ln
  exact ⟨F.rd.below hb, ⟨y, hl.stay hs hbg⟩, F.st.trans (Stay2.of hs)⟩
theorem FillE.x4 (F : FillE T b g A cap w0 w j er) : ∃ e0 e1 e2 e3, w.cell? ⟨g, 15, none⟩ = some e0 ∧ w.cell? ⟨g, 16, none⟩ = some e1 ∧ w.cell? ⟨g, 17, none⟩ = some e2 ∧ w.cell? ⟨g, 18, none⟩ = some e3 := by
  obtain ⟨y, hl⟩ := F.ln
  exact hl.x4
theorem FillE.fz (F : FillE T b g A cap w0 w j er) (o : Nat) : w.frozen? ⟨g, o, none⟩ = false := by
  obtain ⟨y, hl⟩ := F.ln
  exact hl.fz o
structure FillR (T : List Tok) (b g : Nat) (A : Option Addr) (cap : Nat) (w0 w : World) (j er : Int) : Prop where
  rd : Rd18 w b A cap T j er
  st : Stay2 b g w0 w
theorem FillE.set4 (F : FillE T b g A cap w0 w j er) (hbg : b < g) (x0 x1 x2 x3 : Value) :
    FillR T b g A cap w0 ((((w.setCell ⟨g, 15, none⟩ x0).setCell ⟨g, 16, none⟩ x1).setCell ⟨g, 17, none⟩ x2).setCell ⟨g, 18, none⟩ x3) j er := by
  refine ⟨?_, F.st.trans (Stay2.set4 _ _ _ _ _ _ _ _ _)⟩
  have hq : ∀ w : World, ∀ (o : Nat) (v : Value), Rd18 w b A cap T j er → Rd18 (w.setCell ⟨g, o, none⟩ v) b A cap T j er := fun w o v h => Rd18.of h fun q hq => Below.heap_setCell _ _ _ _ (by show q ≠ g; omega)
  exact hq _ _ _ (hq _ _ _ (hq _ _ _ (hq _ _ _ F.rd)))
theorem FillR.out {B : Nat} {V w' : World} (F : FillR T b g A cap V w' j er) (h : Below B w V) (hb : B ≤ b) (hg : B ≤ g) (hw : B ≤ w.heap.size := by omega) : Below B w w' :=
  ⟨F.st.os.trans h.os, F.st.tape.trans h.tape, F.st.output.trans h.output, Nat.le_trans h.size F.st.size, fun k hk => (F.st.block k (by have := h.size; omega) (by omega) (by omega)).trans (h.block k hk)⟩
theorem term18e (F : FillE T b g A cap w0 w j er) (he : er ≠ 0) (hbg : b < g) :
    Calls Tryz.prog 106 #[.pointer (some ⟨b, 0, none⟩)] w fun e w' => e = .returned (.agg #[.int .i64 0, .int .i64 0, .string (tx []), .slice none 0 0]) ∧ FillE T b g A cap w0 w' j er := by
  have b0 : Below w.heap.size w (w.alloc (.cells (exC 0 0 [] none 0 0) 47)) := (Below.refl _ _).alloc (Nat.le_refl _) _
  have h0 := F.rd.below b0
  have hF := F.below hbg b0
  have c2 := h0.c2
  have hlt := h0.lt
  dsimp only [exC] at b0 h0 hF c2 hlt
  have e0 : (er == 0) = false := by simpa using he
  have e0' : (er != 0) = true := by simpa using he
  clear h0
  have HF := Lib.hid hF
  clear hF he F
  go_enter Tryz.func106, Tryz.ntmps106
  go_wp2_with (fail)
  exact bodyPost_ret (results_cell_row rfl _ _ w.heap.size 47 _ (0, 0) _ rfl (heap_alloc_new w _) Tryz.underlying47 rfl (by kernel_rfl)) rfl ⟨rfl, HF.out⟩
end
end Go.Proofs.YtpdkpkabdkefcaaGreatDoor
