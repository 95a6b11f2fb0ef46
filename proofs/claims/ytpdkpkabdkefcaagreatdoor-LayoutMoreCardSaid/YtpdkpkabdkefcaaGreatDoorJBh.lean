/- For the seat: texts joined: IsI. -/
import Derived.Test.YtpdkpkabdkefcaaGreatDoorJBg
import Derived.Test.YtpdkpkabdkefcaaGreatDoorJAs
set_option maxRecDepth 100000
namespace Go.Proofs.YtpdkpkabdkefcaaGreatDoor
open Go.Sx Go.ChangeShapes Go.WideShapes Go.RowKit Go.Joins Go.Deep Go.Rp
theorem bal {w W : World} (h : Below w.heap.size w W) (o : Obj) : Below w.heap.size w (W.alloc o) := h.alloc h.size o
theorem fm_end1 (W : World) (h : Int) (b : Bool) {g : Nat} (hg : g = W.heap.size) : FmRet [b] (.returned (.slice (some ⟨g, 0, none⟩) 1 1)) (W.alloc (.cells #[.int .i64 h, .bool b] 100)) := by
  subst hg
  exact fm_own (fm_row (base := W.heap.size) W (Nat.le_refl _) [(h, b)] (by rfl) rfl (by decide) (by decide)) rfl
theorem fm_end2 (W : World) (h k : Int) (b c : Bool) {g : Nat} (hg : g = W.heap.size) : FmRet [b, c] (.returned (.slice (some ⟨g, 0, none⟩) 2 2)) (W.alloc (.cells #[.int .i64 h, .bool b, .int .i64 k, .bool c] 100)) := by
  subst hg
  exact fm_own (fm_row (base := W.heap.size) W (Nat.le_refl _) [(h, b), (k, c)] (by rfl) rfl (by decide) (by decide)) rfl
def OwnF (base : Nat) (bs : List Bool) (v : Value) (W : World) : Prop := ∃ F : List (Int × Bool), F.map (·.2) = bs ∧ F.length ≤ 10 ∧ W.ownsRow base 100 fmE.z v F.length (encR fmE F)
theorem own1 {base : Nat} (W : World) (hb : base ≤ W.heap.size) (h : Int) (b : Bool) {g : Nat} (hg : g = W.heap.size) : OwnF base [b] (.slice (some ⟨g, 0, none⟩) 1 1) (W.alloc (.cells #[.int .i64 h, .bool b] 100)) := by
  subst hg
  exact ⟨[(h, b)], rfl, by simp, fm_row W hb [(h, b)] (by rfl) rfl (by decide) (by decide)⟩
theorem own_more {base : Nat} {V W : World} {bs : List Bool} {v : Value} (h : OwnF base bs v V) (hb : Below V.heap.size V W) : OwnF base bs v W := by
  obtain ⟨F, h1, h2, h3⟩ := h
  exact ⟨F, h1, h2, own_below h3 hb⟩
theorem own_ret {base : Nat} {W : World} {bs : List Bool} {v : Value} (h : OwnF base bs v W) : FmRet bs (.returned v) W := by
  obtain ⟨F, h1, _, h3⟩ := h
  exact fm_own h3 h1
theorem app1 (w0 : World) {o : Oper} {a : Act} {K : Act → World → Prop} {Q : Exit → Act → World → Prop} (s x : Operand) (ho : o.op = .call { callee := .builtin .append, args := #[s, x], argTypes := #[97, 97] })
    (base : Nat) (hbase : base ≤ w0.heap.size) {bs : List Bool} (v : Value) (hs : a.eval s = v) (hown : OwnF base bs v w0) (hl : bs.length ≤ 8) (g : Nat) (hx : a.eval x = .slice (some ⟨g, 0, none⟩) 1 1) (hg : g = w0.heap.size) (i : Int) (b : Bool)
    (h : ∀ v' w', OwnF base (bs ++ [b]) v' w' → Below base w0 w' → K (a.put o.dst v') w') : o.wp Tryz.prog a (w0.alloc (.cells #[.int .i64 i, .bool b] 100)) K Q := by
  obtain ⟨F, h1, h2, h3⟩ := hown
  have hF : F.length = bs.length := by rw [← h1, List.length_map]
  obtain ⟨i0, hi0, hz0, hz1, hz2⟩ := info_parts fmInfo
  exact app_wpL (E := fmE) w0 100 97 Tryz.underlying97 hi0 hz0 hz1 (by rw [hz2]; decide) rfl s x ho base hbase F [(i, b)] (by simp; omega) v hs h3 g 1 hx hg rfl (by rfl) fun v' w' h4 h5 => h v' w' ⟨F ++ [(i, b)], by rw [List.map_append, h1]; rfl, by simp; omega, h4⟩ h5
theorem app2 (w0 : World) {o : Oper} {a : Act} {K : Act → World → Prop} {Q : Exit → Act → World → Prop} (s x : Operand) (ho : o.op = .call { callee := .builtin .append, args := #[s, x], argTypes := #[97, 97] })
    (base : Nat) (hbase : base ≤ w0.heap.size) {bs : List Bool} (v : Value) (hs : a.eval s = v) (hown : OwnF base bs v w0) (hl : bs.length ≤ 8) (g : Nat) (hx : a.eval x = .slice (some ⟨g, 0, none⟩) 2 2) (hg : g = w0.heap.size) (i j : Int) (b c : Bool)
    (h : ∀ v' w', OwnF base (bs ++ [b, c]) v' w' → Below base w0 w' → K (a.put o.dst v') w') : o.wp Tryz.prog a (w0.alloc (.cells #[.int .i64 i, .bool b, .int .i64 j, .bool c] 100)) K Q := by
  obtain ⟨F, h1, h2, h3⟩ := hown
  have hF : F.length = bs.length := by rw [← h1, List.length_map]
  obtain ⟨i0, hi0, hz0, hz1, hz2⟩ := info_parts fmInfo
  exact app_wpL (E := fmE) w0 100 97 Tryz.underlying97 hi0 hz0 hz1 (by rw [hz2]; decide) rfl s x ho base hbase F [(i, b), (j, c)] (by simp; omega) v hs h3 g 2 hx hg rfl (by rfl) fun v' w' h4 h5 => h v' w' ⟨F ++ [(i, b), (j, c)], by rw [List.map_append, h1]; rfl, by simp; omega, h4⟩ h5
theorem tdiv_wrap (a : Int) (b : Int) (h : -2 ^ 63 ≤ a ∧ a < 2 ^ 63) (hb : 0 ≤ b) : IntKind.i64.wrap (a.tdiv b) = a.tdiv b := by
  have h1 : (a.tdiv b).natAbs ≤ a.natAbs := by rw [Int.natAbs_tdiv]; exact Nat.div_le_self _ _
  have h2 : 0 ≤ a → 0 ≤ a.tdiv b := fun h => Int.tdiv_nonneg h hb
  have h3 : a ≤ 0 → a.tdiv b ≤ 0 := fun h => by have := Int.tdiv_nonneg (a := -a) (b := b) (by omega) hb; rw [Int.neg_tdiv] at this; omega
  rw [IntWalk.i64_left]
  unfold wrap64
  omega
theorem field_n (w : World) : Calls Tryz.prog 189 #[.int .i64 5, .int .i64 5] w fun e w' => e = .returned (.int .u32 32) ∧ w' = w := by
  go_enter Tryz.func189, Tryz.ntmps189
  go_wp2_with (fail)
  exact bodyPost_ret (results_tmp rfl _ _ _) rfl ⟨rfl, rfl⟩
theorem get_n (n : Int) : ∃ g : Int, ∀ w, Calls Tryz.prog 184 #[.int .u32 n, .int .i64 5, .int .i64 5] w fun e w' => e = .returned (.int .u32 g) ∧ w' = w := by
  apply Exists.intro
  intro w
  go_enter Tryz.func184, Tryz.ntmps184
  go_wp2_with (fail)
  ((with_reducible refine (field_n _).mono ?_); rintro e w7 ⟨rfl, rfl⟩)
  go_wp2_with (fail)
  exact bodyPost_ret (results_tmp rfl _ _ _) rfl ⟨rfl, rfl⟩
theorem put_n (k o : Int) (hk : k = 1 ∨ k = 2 ∨ k = 5) : ∃ a c : Int, ∀ w, Laid w → Calls Tryz.prog 177 #[.int .i64 k, .int .i64 o] w fun e w' => e = .returned (.tuple #[.int .i64 a, .int .i64 c]) ∧ w' = w := by
  obtain ⟨hF, hF2⟩ : (∀ w, Laid w → Calls Tryz.prog 64 #[.int .i64 k, .int .i64 o] w fun e w' => e = .returned (.bool (fitK k o)) ∧ w' = w) ∧ True := by
    refine ⟨?_, trivial⟩
    rcases hk with rfl | rfl | rfl
    · exact fits_l1 o
    · exact fits_l2 o
    · exact fits_l5 o
  cases q : fitK k o
  · rw [q] at hF
    refine ⟨0, 0, fun w hw => ?_⟩
    have hf := hF w hw
    clear hF hF2 hw q hk
    go_enter Tryz.func177, Tryz.ntmps177
    go_wp2_with (fail)
    ((with_reducible refine hf.mono ?_); rintro e w7 ⟨rfl, rfl⟩)
    go_wp2_with (fail)
    exact bodyPost_ret (results_tmp2 rfl _ _ _) rfl ⟨rfl, rfl⟩
  · rw [q] at hF
    clear q
    obtain ⟨g, hg⟩ := get_n (o / 2 % 4294967296)
    have HF := Lib.hid hF
    clear hF hF2
    rcases hk with rfl | rfl | rfl
    all_goals
      apply Exists.intro
      apply Exists.intro
      intro w hw
      have hf := HF.out w hw
      go_enter Tryz.func177, Tryz.ntmps177
      go_wp2_with (fail)
      ((with_reducible refine hf.mono ?_); rintro e w7 ⟨rfl, rfl⟩)
      clear hf
      go_wp2_with (first | (go_at_call 184; (with_reducible refine (hg _).mono ?_); rintro e w8 ⟨rfl, rfl⟩) | fail)
      exact bodyPost_ret (results_tmp2 rfl _ _ _) rfl ⟨rfl, rfl⟩
set_option maxHeartbeats 1000000 in
theorem near_n (h k o : Int) (hk : k = 1 ∨ k = 2 ∨ k = 5) (ok : Bool) : ∃ r : Int, ∀ w, Laid w → Calls Tryz.prog 161 #[.int .i64 h, .int .i64 k, .int .i64 o, .bool ok] w fun e w' => e = .returned (.agg #[.int .i64 r, .bool (ok && fitK k o)]) ∧ Below w.heap.size w w' := by
  have hF : ∀ w, Laid w → Calls Tryz.prog 64 #[.int .i64 k, .int .i64 o] w fun e w' => e = .returned (.bool (fitK k o)) ∧ w' = w := by
    rcases hk with rfl | rfl | rfl
    · exact fits_l1 o
    · exact fits_l2 o
    · exact fits_l5 o
  obtain ⟨a, c, hP⟩ := put_n k o hk
  clear hk
  generalize fitK k o = q at hF ⊢
  have key : ∀ w, Laid w → Laid (w.alloc (.cells #[.int .i64 0, .bool false] 100)) ∧ Below w.heap.size w (w.alloc (.cells #[.int .i64 0, .bool false] 100)) := fun w hw => ⟨laid_lw hw ((Below.refl _ _).alloc (Nat.le_refl _) _), (Below.refl _ _).alloc (Nat.le_refl _) _⟩
  have HP := Lib.hid hP
  have HF := Lib.hid hF
  have HK := Lib.hid key
  clear hP hF key
  cases ok
  all_goals
    apply Exists.intro
    intro w hw
    obtain ⟨hW, bW⟩ := HK.out w hw
    have hz := heap_alloc_new w (.cells #[.int .i64 0, .bool false] 100)
    generalize hG : w.alloc (.cells #[.int .i64 0, .bool false] 100) = W at hW bW hz
    have hp := HP.out _ hW
    have hf := HF.out _ hW
    have f0 := froz hz
    have c0 : W.cell? ⟨w.heap.size, 0, none⟩ = some (.int .i64 0) := by simp [World.cell?, hz]
    have c1 : W.cell? ⟨w.heap.size, 1, none⟩ = some (.bool false) := by simp [World.cell?, hz]
    go_enter Tryz.func161, Tryz.ntmps161
    go_wp2_with (first | rw [hG] | fail)
    ((with_reducible refine hp.mono ?_); rintro e w7 ⟨rfl, rfl⟩)
    go_wp2_with (first | (go_at_call 64; (with_reducible refine hf.mono ?_); rintro e w8 ⟨rfl, rfl⟩) | fail)
    exact bodyPost_ret (results_cell_row rfl _ _ w.heap.size 100 _ (0, 0) _ rfl (setCell_at (setCell_at hz _) _) Tryz.underlying100 rfl (by kernel_rfl)) rfl ⟨rfl, (bW.setCell (Nat.le_refl _) _).setCell (Nat.le_refl _) _⟩
end Go.Proofs.YtpdkpkabdkefcaaGreatDoor
