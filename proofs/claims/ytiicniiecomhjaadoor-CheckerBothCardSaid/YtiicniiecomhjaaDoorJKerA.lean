/- For the seat: texts joined: KerA. -/
import Derived.Test.YtiicniiecomhjaaDoorJKerDef
/- For the seat: Few, Disjoint, Leads, Index: what they answer. -/
namespace Go.Proofs.YtiicniiecomhjaaDoor
open Go.Sx Go.ChangeShapes Go.WideShapes Go.RowKit Go.Joins Go.Deep

/-- Numbers of a slice: the first place of one. -/
theorem indexI_at {l : List Int} {i : Nat} {v : Int} (hi : i < l.length) (hb : ∀ j, j < i → l[j]? ≠ some v) (h : l[i] = v) : indexI l v = i := by
  have : l.findIdx? (· == v) = some i := by
    rw [List.findIdx?_eq_some_iff_getElem]
    refine ⟨hi, by simp [h], fun j hj => ?_⟩
    have := hb j hj
    rw [List.getElem?_eq_getElem (by omega)] at this
    simpa using this
  rw [indexI, this]
theorem indexI_none {l : List Int} {v : Int} (hb : ∀ j, j < l.length → l[j]? ≠ some v) : indexI l v = -1 := by
  have : l.findIdx? (· == v) = none := by
    rw [List.findIdx?_eq_none_iff]
    intro x hx
    obtain ⟨j, hj, rfl⟩ := List.getElem_of_mem hx
    have := hb j hj
    rw [List.getElem?_eq_getElem hj] at this
    simpa using this
  rw [indexI, this]

set_option maxRecDepth 100000 in
set_option maxHeartbeats 1000000 in
theorem index_any (l : List Int) (A : Option Addr) (cap : Nat) (v : Int) (w : World) (hA : IAt w w.heap.size A l) (hl : l.length ≤ maxLen) :
    Calls Tryd.prog 19 #[.slice A l.length cap, .int .i64 v] w fun e w' => e = .returned (.int .i64 (indexI l v)) ∧ w' = w := by
  unfold maxLen at hl
  go_enter Tryd.func19, Tryd.ntmps19
  go_wp2
  go_loopw [8] (fun k wr => ∃ i : Nat, i ≤ l.length ∧ k = .int .i64 i ∧ (∀ j, j < i → l[j]? ≠ some v) ∧ wr = w) (fun k _ => l.length - (intOf k).toNat)
  case atStart => exact ⟨0, by omega, rfl, fun j hj => by omega, rfl⟩
  case round =>
    obtain ⟨i, hi, rfl, hp, rfl⟩ := hrel
    by_cases hlt : i < l.length
    · obtain ⟨g, off, rfl, hg, hc⟩ := hA.at_ hlt
      have hk0 : (0 : Int) ≤ (i : Int) := by omega
      have hkl : (i : Int) < (l.length : Int) := by omega
      by_cases he : v = l[i]
      · have hr := indexI_at hlt hp he.symm
        rw [← he] at hc
        go_wp2
        refine bodyPost_ret (results_tmp rfl _ _ _) rfl ⟨by rw [hr]; rfl, rfl⟩
      · have hq : (v == l[i]) = false := by simpa using he
        have hp' : ∀ j, j < i + 1 → l[j]? ≠ some v := fun j hj => by
          by_cases e : j = i
          · subst e; rw [List.getElem?_eq_getElem hlt]; simpa using fun e => he e.symm
          · exact hp j (by omega)
        go_wp2
        go_roundw
        case rel => exact ⟨i + 1, by omega, by go_num, hp', trivial⟩
        case measure => simp [intOf]; omega
    · have e : i = l.length := by omega
      subst e
      have hr := indexI_none hp
      go_wp2
      refine bodyPost_ret (results_tmp rfl _ _ _) rfl ⟨by rw [hr]; rfl, rfl⟩

set_option maxRecDepth 100000 in
set_option maxHeartbeats 1000000 in
theorem leads_any (y : Itm) (w : World) : Calls Tryd.prog 17 #[y.val] w fun e w' => e = .returned (.tuple #[.int .i64 (leadsP y).1, .bool (leadsP y).2]) ∧ Below w.heap.size w w' := by
  obtain ⟨k, a, s, f, l, x, V, vc, vs⟩ := y
  obtain ⟨x0, x1, x2, x3, x4, x5, x6, x7, xb⟩ := x
  unfold leadsP
  dsimp only
  go_enter Tryd.func17, Tryd.ntmps17
  have hb : Below w.heap.size w (w.alloc (.cells (Itm.cells ⟨k, a, s, f, l, ⟨x0, x1, x2, x3, x4, x5, x6, x7, xb⟩, V, vc, vs⟩) 32)) := (Below.refl _ _).alloc (Nat.le_refl _) _
  by_cases h1 : k = 1
  · subst h1
    rw [if_pos rfl]
    by_cases h40 : x0 = 40
    · subst h40
      rw [if_pos (.inl rfl)]
      go_wp2
      exact bodyPost_ret (by simp [results, Tryd.results17, go_sem]) rfl ⟨rfl, hb⟩
    by_cases h41 : x0 = 41
    · subst h41
      rw [if_pos (.inr rfl)]
      go_wp2
      exact bodyPost_ret (by simp [results, Tryd.results17, go_sem]) rfl ⟨rfl, hb⟩
    rw [if_neg (by rintro (h | h) <;> contradiction)]
    have q40 : (x0 == 40) = false := by simpa using h40
    have q41 : (x0 == 41) = false := by simpa using h41
    by_cases h35 : x0 = 35
    · subst h35
      rw [if_pos (.inl rfl)]
      go_wp2
      exact bodyPost_ret (by simp [results, Tryd.results17, go_sem]) rfl ⟨rfl, hb⟩
    have q35 : (x0 == 35) = false := by simpa using h35
    by_cases h36 : x0 = 36
    · subst h36
      rw [if_pos (.inr (.inl rfl))]
      go_wp2
      exact bodyPost_ret (by simp [results, Tryd.results17, go_sem]) rfl ⟨rfl, hb⟩
    have q36 : (x0 == 36) = false := by simpa using h36
    by_cases h37 : x0 = 37
    · subst h37
      rw [if_pos (.inr (.inr (.inl rfl)))]
      go_wp2
      exact bodyPost_ret (by simp [results, Tryd.results17, go_sem]) rfl ⟨rfl, hb⟩
    have q37 : (x0 == 37) = false := by simpa using h37
    by_cases h38 : x0 = 38
    · subst h38
      rw [if_pos (.inr (.inr (.inr rfl)))]
      go_wp2
      exact bodyPost_ret (by simp [results, Tryd.results17, go_sem]) rfl ⟨rfl, hb⟩
    have q38 : (x0 == 38) = false := by simpa using h38
    rw [if_neg (by rintro (h | h | h | h) <;> contradiction)]
    go_wp2
    exact bodyPost_ret (by simp [results, Tryd.results17, go_sem]) rfl ⟨rfl, hb⟩
  · rw [if_neg h1]
    have q1 : (k != 1) = true := by simpa using h1
    go_wp2
    exact bodyPost_ret (by simp [results, Tryd.results17, go_sem]) rfl ⟨rfl, hb⟩

set_option maxRecDepth 100000 in
set_option maxHeartbeats 2000000 in
theorem disj_any (s : ByteArray) (l : List Itm) (A : Option Addr) (cap : Nat) (w : World) (hA : ItAt w w.heap.size A l) (hl : l.length ≤ maxLen) (hs : s.size ≤ maxLen) (hk : ∀ y ∈ l, y.Ok) :
    Calls Tryd.prog 8 #[.agg #[.string s, .slice A l.length cap]] w fun e w' => e = .returned (.bool (disjB s.size 0 l)) ∧ Below w.heap.size w w' := by
  unfold maxLen at hl hs
  have b0 : Below w.heap.size w (w.alloc (.cells #[.string s, .slice A l.length cap] 24)) := (Below.refl _ _).alloc (Nat.le_refl _) _
  have c0 : (w.alloc (.cells #[.string s, .slice A l.length cap] 24)).cell? ⟨w.heap.size, 0, none⟩ = some (.string s) := by
    have h : (w.alloc (.cells #[.string s, .slice A l.length cap] 24)).heap[w.heap.size]? = some (.cells #[.string s, .slice A l.length cap] 24 (0, 0)) := heap_alloc_new w _
    simp only [World.cell?, h]; rfl
  have c01 : (w.alloc (.cells #[.string s, .slice A l.length cap] 24)).cell? ⟨w.heap.size, 1, none⟩ = some (.slice A l.length cap) := by
    have h : (w.alloc (.cells #[.string s, .slice A l.length cap] 24)).heap[w.heap.size]? = some (.cells #[.string s, .slice A l.length cap] 24 (0, 0)) := heap_alloc_new w _
    simp only [World.cell?, h]; rfl
  generalize hW : w.alloc (.cells #[.string s, .slice A l.length cap] 24) = W0 at b0 c0 c01
  have hsz : W0.heap.size = w.heap.size + 1 := by rw [← hW]; simp
  go_enter Tryd.func8, Tryd.ntmps8
  go_wp2
  go_loopw [3, 9] (fun p k wr => ∃ (i : Nat) (q : Int), i ≤ l.length ∧ k = .int .i64 i ∧ p = .int .i64 q ∧ 0 ≤ q ∧ q ≤ s.size ∧ disjB s.size 0 l = disjB s.size q (l.drop i) ∧ Below W0.heap.size W0 wr) (fun _ k _ => l.length - (intOf k).toNat)
  case atStart => exact ⟨0, 0, by omega, rfl, rfl, by omega, by omega, rfl, Below.refl _ _⟩
  case round =>
    obtain ⟨i, q, hi, rfl, rfl, hq0, hqs, hd, hbr⟩ := hrel
    have c1 : wr.cell? ⟨w.heap.size, 0, none⟩ = some (.string s) := (hbr.cell (p := ⟨w.heap.size, 0, none⟩) (by show w.heap.size < W0.heap.size; omega)).trans c0
    have hbw : Below w.heap.size w wr := b0.trans (hbr.mono (by omega))
    have hwz : w.heap.size < wr.heap.size := by have := hbr.size; omega
    by_cases hlt : i < l.length
    · obtain ⟨g, off, rfl, hg, hc⟩ := (hA.below hbw (Nat.le_refl _)).at_ hlt
      have hk0 : (0 : Int) ≤ (i : Int) := by omega
      have hkl : (i : Int) < (l.length : Int) := by omega
      have IN := itIn_of hc
      rw [List.drop_eq_getElem_cons hlt] at hd
      have hy := hk l[i] (List.getElem_mem hlt)
      generalize l[i] = y at hd IN hy
      clear hc
      obtain ⟨k, a, sz, f, ln, x, V, vc, vs⟩ := y
      obtain ⟨x0, x1, x2, x3, x4, x5, x6, x7, xb⟩ := x
      obtain ⟨p0, p1, p2, p3, p4, p5, p6, p7, p8, p9, p10, p11, p12, p13, p14⟩ := IN
      have hys := hy.s
      rw [disjB_cons] at hd
      dsimp only at hd hys p0 p1 p2 p3 p4 p5 p6 p7 p8 p9 p10 p11 p12 p13 p14
      have HD := Lib.hid hd
      clear hd hy
      have hg' : g < wr.heap.size := by omega
      have hfin : ∀ o, Below w.heap.size w (wr.alloc o) := fun o => hbw.alloc hbw.size o
      have hfin2 : ∀ o, Below W0.heap.size W0 (wr.alloc o) := fun o => hbr.alloc hbr.size o
      have hsub : IntKind.i64.wrap ((s.size : Int) - q) = (s.size : Int) - q := IntWalk.i64_in _ (by omega)
      by_cases h1 : a = q
      · subst h1
        have e1 : (a != a) = false := by simp
        by_cases h2 : sz < 1
        · have hr : disjB s.size 0 l = false := by rw [HD.out, if_neg (by omega)]
          have e2 : decide (sz < 1) = true := decide_eq_true h2
          go_wp2
          exact bodyPost_ret (results_tmp rfl _ _ _) rfl ⟨by first | rfl | (rw [hr]; rfl), hfin _⟩
        · have e2 : decide (sz < 1) = false := decide_eq_false h2
          by_cases h3 : (s.size : Int) - a < sz
          · have hr : disjB s.size 0 l = false := by rw [HD.out, if_neg (by omega)]
            have e3 : decide ((s.size : Int) - a < sz) = true := decide_eq_true h3
            go_wp2
            exact bodyPost_ret (results_tmp rfl _ _ _) rfl ⟨by first | rfl | (rw [hr]; rfl), hfin _⟩
          · have e3 : decide ((s.size : Int) - a < sz) = false := decide_eq_false h3
            have hr : disjB s.size 0 l = disjB s.size (a + sz) (l.drop (i + 1)) := by rw [HD.out, if_pos ⟨rfl, by omega, by omega⟩]
            have hadd : IntKind.i64.wrap (a + sz) = a + sz := IntWalk.i64_in _ (by omega)
            go_wp2
            go_roundw
            case rel => exact ⟨i + 1, a + sz, by omega, by go_num, rfl, by omega, by omega, hr, hfin2 _⟩
            case measure => simp [intOf]; omega
      · have hr : disjB s.size 0 l = false := by rw [HD.out, if_neg (by omega)]
        have e1 : (a != q) = true := by simpa using h1
        go_wp2
        exact bodyPost_ret (results_tmp rfl _ _ _) rfl ⟨by first | rfl | (rw [hr]; rfl), hfin _⟩
    · have e : i = l.length := by omega
      subst e
      rw [List.drop_length] at hd
      go_wp2
      refine bodyPost_ret (results_tmp rfl _ _ _) rfl ⟨by rw [hd]; rfl, hbw⟩
#print axioms disj_any
end Go.Proofs.YtiicniiecomhjaaDoor
