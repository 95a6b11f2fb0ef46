/- For the seat: texts joined: LxE, LxF, ExA, ExB, ExC, ExE. -/
import Derived.Test.YtpdkpkabdkefcaaGreatDoorJAc
import Derived.Test.YtpdkpkabdkefcaaGreatDoorJAb
import Derived.Test.YtpdkpkabdkefcaaGreatDoorJAa
import Derived.Deep.RegionWith
import Derived.Deep.RegionHeld3
set_option maxRecDepth 100000
namespace Go.Proofs.YtpdkpkabdkefcaaGreatDoor
open Go.Sx Go.ChangeShapes Go.WideShapes Go.RowKit Go.Joins Go.Deep Go.Rp
abbrev tokC (t : Tok) : Array Value := #[.int .i64 t.k, .int .i64 t.n, .string (tx t.t)]
def tokE : Ele Tok where
  cells := tokC
  z := 3
  len := fun _ => rfl
  one := fun x u hu => by
    simp only [List.mem_cons, List.not_mem_nil, or_false] at hu
    rcases hu with rfl | rfl | rfl <;> rfl
  pos := by decide
theorem tokInfo : (Tryz.prog.info? 90).map (fun i => (i.zero, i.size, i.bytes)) = some (some (.agg #[.int .i64 0, .int .i64 0, .string ⟨#[]⟩]), 3, 32) := by kernel_rfl
theorem app_tok (w0 : World) {ops : Array Oper} {rest : List Oper} {o : Oper} {a : Act} {Q : Exit → Act → World → Prop} (hgd : o.guard = none) (s x : Operand)
    (ho : o.op = .call { callee := .builtin .append, args := #[s, x], argTypes := #[86, 86] }) (base : Nat) (hbase : base ≤ w0.heap.size) (l : List Tok) (k n : Int) (b : Bs) (hlen : l.length ≤ 1000000)
    (v : Value) (hs : a.eval s = v) (hown : w0.ownsRow base 90 3 v l.length (encR tokE l)) (g : Nat) (hx : a.eval x = .slice (some ⟨g, 0, none⟩) 1 1) (hg : g = w0.heap.size)
    (h : ∀ v' w', w'.ownsRow base 90 3 v' (l ++ [(⟨k, n, b⟩ : Tok)]).length (encR tokE (l ++ [⟨k, n, b⟩])) → Below base w0 w' → wpList Tryz.prog ops Q rest (a.put o.dst v') w') :
    wpList Tryz.prog ops Q (o :: rest) a (w0.alloc (.cells #[.int .i64 k, .int .i64 n, .string (tx b)] 90)) := by
  obtain ⟨i0, hi0, hz0, hz1, hz2⟩ := info_parts tokInfo
  exact app_row (E := tokE) w0 90 86 Tryz.underlying86 hi0 hz0 hz1 (by rw [hz2]; decide) rfl hgd s x ho base hbase l ⟨k, n, b⟩ hlen v hs hown g hx hg h
def TokRet (e : Ending) (w : World) : Option (List Tok) → Prop
  | none => e = .returned (.tuple #[.slice none 0 0, .bool false])
  | some T => ∃ A cap, e = .returned (.tuple #[.slice A T.length cap, .bool true]) ∧ RSl A T.length cap ∧ RAt tokE w w.heap.size A T
set_option maxHeartbeats 4000000 in
theorem line16 (l : Bs) (hl : l.length ≤ 1000000000000) (w : World) : Calls Tryz.prog 75 #[.string (tx l)] w fun e w' => TokRet e w' (lineL l) ∧ Below w.heap.size w w' := by
  have hd := letter16
  have hg := digit16
  generalize hR : lineL l = R
  unfold lineL at hR
  go_enter Tryz.func75, Tryz.ntmps75
  cases u : decide (256 < (l.length : Int))
  rotate_left
  · obtain rfl : R = none := by
      rw [← hR, if_pos]
      have := of_decide_eq_true u
      omega
    clear hR
    go_wp2_with fail
    exact bodyPost_ret (results_tmp2 rfl _ _ _) rfl ⟨(by unfold TokRet; rfl), Below.refl _ _⟩
  · have hl2 : l.length ≤ 256 := by
      have := of_decide_eq_false u
      omega
    rw [if_neg (by omega)] at hR
    go_wp2_with fail
    go_loopw [4, 5] (fun v t wr => ∃ (n : Nat) (acc : List Tok), t = .int .i64 n ∧ n ≤ l.length ∧ acc.length ≤ n ∧ (lexL (l.drop n)).map (acc ++ ·) = R ∧ wr.ownsRow w.heap.size 90 3 v acc.length (encR tokE acc) ∧ Below w.heap.size w wr) (fun _ t _ => l.length - (intOf t).toNat)
    case atStart => exact ⟨0, [], rfl, by omega, by simp, by simpa using hR, World.ownsRow_nil _ _ _ _, Below.refl _ _⟩
    case round =>
      obtain ⟨n, acc, rfl, hn, hac, he, hown, hb⟩ := hrel
      clear hR
      by_cases hlt : n < l.length
      · have u0 : decide ((n : Int) < (l.length : Int)) = true := decide_eq_true (by omega)
        obtain ⟨b, r, hdr⟩ : ∃ b r, l.drop n = b :: r := ⟨_, _, List.drop_eq_getElem_cons hlt⟩
        have hdr1 : l.drop (n + 1) = r := by rw [← List.tail_drop, hdr]; rfl
        have hlen := congrArg List.length hdr
        simp only [List.length_drop, List.length_cons] at hlen
        rw [hdr] at he
        have hrun := run16 (b :: r) (by simp; omega)
        have hnum := number16 (b :: r) (by simp; omega)
        have hsgn := sign16 (b :: r) (by simp; omega) (by simp)
        have hX : (tx l).extract n l.length = tx (b :: r) := by rw [ext_tx, List.take_of_length_le (by simp), hdr]
        have hTk : ∀ k, (tx (b :: r)).extract 0 k = tx ((b :: r).take k) := fun k => ext_tx _ _ _
        have hTs : (tx (b :: r)).size = r.length + 1 := rfl
        have q : 0 < (tx (b :: r)).size := by rw [hTs]; omega
        have hz : ((((tx (b :: r))[0]'q).toNat : Int)) = (b.toNat : Int) := rfl
        generalize tx (b :: r) = T at hrun hnum hsgn hX hTk hTs q hz
        have hbl : blankB b = (((b.toNat : Int) == 9) || ((b.toNat : Int) == 13) || ((b.toNat : Int) == 32)) := by
          unfold blankB
          rw [← byte_eq b 9, ← byte_eq b 13, ← byte_eq b 32]
          rfl
        have hst : (b == 64 || b == 59) = (((b.toNat : Int) == 64) || ((b.toNat : Int) == 59)) := by
          rw [← byte_eq b 64, ← byte_eq b 59]
          rfl
        have hle : letB b = letZ (b.toNat : Int) := rfl
        have hdg : digB b = digZ (b.toNat : Int) := rfl
        generalize (b.toNat : Int) = z at hz hbl hst hle hdg
        cases e9 : (z == 9)
        rotate_left
        · rw [e9] at hbl
          have hbb : blankB b = true := by rw [hbl]; rfl
          rw [lexL_blank hbb] at he
          clear hrun hnum hsgn hbl hst hle hdg
          go_wp2_with fail
          go_roundw
          case rel => exact ⟨n + 1, acc, by go_num, by omega, by omega, by rw [hdr1]; exact he, hown, hb⟩
          case measure => simp [intOf]; omega
        cases e13 : (z == 13)
        rotate_left
        · rw [e9, e13] at hbl
          have hbb : blankB b = true := by rw [hbl]; rfl
          rw [lexL_blank hbb] at he
          clear hrun hnum hsgn hbl hst hle hdg
          go_wp2_with fail
          go_roundw
          case rel => exact ⟨n + 1, acc, by go_num, by omega, by omega, by rw [hdr1]; exact he, hown, hb⟩
          case measure => simp [intOf]; omega
        cases e32 : (z == 32)
        rotate_left
        · rw [e9, e13, e32] at hbl
          have hbb : blankB b = true := by rw [hbl]; rfl
          rw [lexL_blank hbb] at he
          clear hrun hnum hsgn hbl hst hle hdg
          go_wp2_with fail
          go_roundw
          case rel => exact ⟨n + 1, acc, by go_num, by omega, by omega, by rw [hdr1]; exact he, hown, hb⟩
          case measure => simp [intOf]; omega
        rw [e9, e13, e32] at hbl
        have hbb : blankB b = false := hbl
        cases e64 : (z == 64)
        rotate_left
        · rw [e64] at hst
          have hss : (b == 64 || b == 59) = true := by rw [hst]; rfl
          rw [lexL_stop hbb hss] at he
          clear hrun hnum hsgn hbl hst hle hdg
          go_wp2_with fail
          go_roundw
          case rel => exact ⟨l.length, acc, by go_num, by omega, by omega, by rw [List.drop_eq_nil_of_le (Nat.le_refl _), lexL_nil]; exact he, hown, hb⟩
          case measure => simp [intOf]; omega
        cases e59 : (z == 59)
        rotate_left
        · rw [e64, e59] at hst
          have hss : (b == 64 || b == 59) = true := by rw [hst]; rfl
          rw [lexL_stop hbb hss] at he
          clear hrun hnum hsgn hbl hst hle hdg
          go_wp2_with fail
          go_roundw
          case rel => exact ⟨l.length, acc, by go_num, by omega, by omega, by rw [List.drop_eq_nil_of_le (Nat.le_refl _), lexL_nil]; exact he, hown, hb⟩
          case measure => simp [intOf]; omega
        rw [e64, e59] at hst
        have hss : (b == 64 || b == 59) = false := hst
        go_wp2_with fail
        ((with_reducible refine (hd _ _).mono ?_); rintro e w1 ⟨rfl, rfl⟩)
        cases ql : letZ z
        rotate_left
        · have hln : letB b = true := by rw [hle, ql]
          rw [lexL_name hbb hss hln] at he
          have hk0 := runL_pos (r := r) hln
          have hk1 := runL_le (b :: r)
          clear hnum hsgn hbl hst hle hdg
          go_wp2_with fail
          ((with_reducible refine (hrun _).mono ?_); rintro e w1 ⟨rfl, rfl⟩)
          generalize runL (b :: r) = k at he hk0 hk1 ⊢
          simp only [List.length_cons] at hk1
          clear hrun
          rcases Nat.lt_or_ge 32 k with hk | hk
          · have u1 : decide ((32 : Int) < (k : Int)) = true := decide_eq_true (by omega)
            rw [if_pos hk] at he
            have hRn : R = none := by rw [← he]; rfl
            subst hRn
            go_wp2_with fail
            exact bodyPost_ret (results_tmp2 rfl _ _ _) rfl ⟨(by unfold TokRet; rfl), hb⟩
          · have u1 : decide ((32 : Int) < (k : Int)) = false := decide_eq_false (by omega)
            rw [if_neg (by omega)] at he
            have hTk2 := hTk k
            have u2 : (k : Int) ≤ (T.size : Int) := by omega
            clear hTk
            go_wp2_with (at_builtin; refine app_tok w1 rfl _ _ rfl w.heap.size hb.size acc 1 0 ((b :: r).take k) (by omega) _ rfl ?_ _ rfl rfl ?_; exact hown; intro v2 w2 hown2 hb2)
            go_roundw
            case rel => exact ⟨n + k, acc ++ [⟨1, 0, ((b :: r).take k)⟩], by go_num, by omega, by simp; omega, by rw [← List.drop_drop, hdr, ← he, Option.map_map]; congr 1; funext z; simp, hown2, hb.trans hb2⟩
            case measure => simp [intOf]; omega
        have hln : letB b = false := by rw [hle, ql]
        go_wp2_with fail
        ((with_reducible refine (hg _ _).mono ?_); rintro e w1 ⟨rfl, rfl⟩)
        cases qd : digZ z
        rotate_left
        · have hdn : digB b = true := by rw [hdg, qd]
          rw [lexL_num hbb hss hln hdn] at he
          have hk1 := numL_le (b :: r)
          clear hrun hsgn hbl hst hle hdg
          go_wp2_with fail
          ((with_reducible refine (hnum _).mono ?_); rintro e w1 ⟨rfl, rfl⟩)
          generalize numL (b :: r) = p at he hk1 ⊢
          obtain ⟨k, x⟩ := p
          simp only [List.length_cons] at hk1
          clear hnum
          rcases Nat.eq_zero_or_pos k with hk | hk
          · subst hk
            rw [if_pos rfl] at he
            have hRn : R = none := by rw [← he]; rfl
            subst hRn
            go_wp2_with fail
            exact bodyPost_ret (results_tmp2 rfl _ _ _) rfl ⟨(by unfold TokRet; rfl), hb⟩
          · have u1 : ((k : Int) == 0) = false := by simp; omega
            rw [if_neg (show ¬ k = 0 by omega)] at he
            clear hTk
            go_wp2_with (at_builtin; refine app_tok w1 rfl _ _ rfl w.heap.size hb.size acc 2 x [] (by omega) _ rfl ?_ _ rfl rfl ?_; exact hown; intro v2 w2 hown2 hb2)
            go_roundw
            case rel => exact ⟨n + k, acc ++ [⟨2, x, []⟩], by go_num, by omega, by simp; omega, by rw [← List.drop_drop, hdr, ← he, Option.map_map]; congr 1; funext z; simp, hown2, hb.trans hb2⟩
            case measure => simp [intOf]; omega
        have hdn : digB b = false := by rw [hdg, qd]
        rw [lexL_sign hbb hss hln hdn] at he
        have hk1 := sgnL_le (b :: r)
        clear hrun hnum hbl hst hle hdg
        go_wp2_with fail
        ((with_reducible refine (hsgn _).mono ?_); rintro e w1 ⟨rfl, hb1⟩)
        have hown1 := own_below hown hb1
        have hB1 := hb.trans (hb1.mono hb.size)
        generalize sgnL (b :: r) = k at he hk1 ⊢
        simp only [List.length_cons] at hk1
        clear hsgn
        rcases Nat.eq_zero_or_pos k with hk | hk
        · subst hk
          rw [if_pos rfl] at he
          have hRn : R = none := by rw [← he]; rfl
          subst hRn
          go_wp2_with fail
          exact bodyPost_ret (results_tmp2 rfl _ _ _) rfl ⟨(by unfold TokRet; rfl), hB1⟩
        · have u1 : ((k : Int) == 0) = false := by simp; omega
          rw [if_neg (show ¬ k = 0 by omega)] at he
          have hTk2 := hTk k
          have u2 : (k : Int) ≤ (T.size : Int) := by omega
          clear hTk
          go_wp2_with (at_builtin; refine app_tok w1 rfl _ _ rfl w.heap.size hB1.size acc 3 0 ((b :: r).take k) (by omega) _ rfl ?_ _ rfl rfl ?_; exact hown1; intro v2 w2 hown2 hb2)
          go_roundw
          case rel => exact ⟨n + k, acc ++ [⟨3, 0, ((b :: r).take k)⟩], by go_num, by omega, by simp; omega, by rw [← List.drop_drop, hdr, ← he, Option.map_map]; congr 1; funext z; simp, hown2, hB1.trans hb2⟩
          case measure => simp [intOf]; omega
      · obtain rfl : n = l.length := by omega
        have u0 : decide ((l.length : Int) < (l.length : Int)) = false := decide_eq_false (by omega)
        rw [List.drop_eq_nil_of_le (Nat.le_refl _), lexL_nil] at he
        obtain rfl : R = some acc := by rw [← he]; simp
        clear he
        obtain ⟨A, cap, rfl, h1, h2⟩ := own_row hown
        go_wp2_with fail
        exact bodyPost_ret (results_tmp2 rfl _ _ _) rfl ⟨⟨A, cap, rfl, h1, h2⟩, hb⟩
end Go.Proofs.YtpdkpkabdkefcaaGreatDoor
namespace Go.Proofs.YtpdkpkabdkefcaaGreatDoor
open Go.Sx Go.ChangeShapes Go.WideShapes Go.RowKit Go.Joins Go.Deep Go.Rp
theorem digsN_lt {n : Nat} (h : n < 10) : digsN n = [UInt8.ofNat (48 + n)] := by
  unfold digsN
  rw [show n / 10 = 0 by omega, digsQ, if_pos rfl, List.nil_append, Nat.mod_eq_of_lt h]
theorem digsN_ge {n : Nat} (h : 10 ≤ n) : digsN n = digsN (n / 10) ++ [UInt8.ofNat (48 + n % 10)] := by
  conv => lhs; unfold digsN
  rw [digsQ, if_neg (by omega)]
  rfl
theorem digit_text (d : Nat) (h : d < 10) : (⟨#[48, 49, 50, 51, 52, 53, 54, 55, 56, 57]⟩ : ByteArray).extract d (d + 1) = tx [UInt8.ofNat (48 + d)] := by
  match d, h with
  | 0, _ => rfl
  | 1, _ => rfl
  | 2, _ => rfl
  | 3, _ => rfl
  | 4, _ => rfl
  | 5, _ => rfl
  | 6, _ => rfl
  | 7, _ => rfl
  | 8, _ => rfl
  | 9, _ => rfl
theorem digit_run (d : Nat) (h : d < 10) (i j : Int) (hi : i = d) (hj : j = d + 1) (w : World) :
    (Instr.slice 9 (.string ⟨#[48, 49, 50, 51, 52, 53, 54, 55, 56, 57]⟩) (some (.int .i64 i)) (some (.int .i64 j)) none).run Tryz.prog w = .ok (.string (tx [UInt8.ofNat (48 + d)])) w := by
  subst hi hj
  rw [run_slice_string w 9 _ .i64 .i64 _ _ Tryz.underlying9 (by omega) (by omega) (by show (d : Int) + 1 ≤ 10; omega), ← digit_text d h]
  rfl
theorem tx_app (a b : Bs) : tx a ++ tx b = tx (a ++ b) := ByteArray.mk_append_mk a b
theorem digits16 (n : Nat) (hn : n < 10 ^ 19) (w : World) : Calls Tryz.prog 73 #[.int .i64 n] w fun e w' => e = .returned (.string (tx (digsN n))) ∧ w' = w := by
  generalize hR : digsN n = R
  go_enter Tryz.func73, Tryz.ntmps73
  go_wp2_with fail
  go_loopw [0, 3] (fun t v wr => ∃ (m : Nat) (suf : Bs), t = .int .i64 m ∧ v = .string (tx suf) ∧ m < 10 ^ 19 ∧ m * 10 ^ suf.length < 10 ^ 19 ∧ suf.length ≤ 19 ∧ digsN m ++ suf = R ∧ wr = w) (fun t _ _ => (intOf t).toNat)
  case atStart => exact ⟨n, [], rfl, rfl, hn, by simpa using hn, by simp, by rw [List.append_nil]; exact hR, rfl⟩
  case round =>
    obtain ⟨m, suf, rfl, rfl, hm, hs, hs2, he, rfl⟩ := hrel
    clear hR
    rcases Nat.lt_or_ge m 10 with h | h
    · have u0 : decide ((10 : Int) ≤ (m : Int)) = false := decide_eq_false (by omega)
      have hd := digit_run m h m (m + 1) rfl rfl wr
      rw [digsN_lt h] at he
      generalize UInt8.ofNat (48 + m) = b at hd he
      clear hs
      go_wp2_with fail
      refine bodyPost_ret (results_tmp rfl _ _ _) rfl ⟨?_, rfl⟩
      rw [← he]
      exact congrArg (fun x => Ending.returned (Value.string x)) (tx_app [b] suf)
    · have u0 : decide ((10 : Int) ≤ (m : Int)) = true := decide_eq_true (by omega)
      have hd := digit_run (m % 10) (by omega) (m % 10) (m % 10 + 1) rfl rfl wr
      rw [digsN_ge h, List.append_assoc] at he
      generalize UInt8.ofNat (48 + m % 10) = b at hd he
      have hs1 : m / 10 * 10 ^ (suf.length + 1) < 10 ^ 19 := by
        refine Nat.lt_of_le_of_lt ?_ hs
        rw [Nat.pow_succ, Nat.mul_comm (10 ^ suf.length) 10, ← Nat.mul_assoc]
        exact Nat.mul_le_mul_right _ (Nat.div_mul_le_self m 10)
      have hs3 : suf.length + 1 ≤ 19 := by
        rcases Nat.lt_or_ge suf.length 19 with h | h
        · exact h
        · exfalso
          have h1 := Nat.pow_le_pow_right (show 0 < 10 by decide) h
          have h2 := Nat.mul_le_mul (show 1 ≤ m by omega) h1
          omega
      have HE := Lib.hid he
      have HS := Lib.hid hs1
      clear hs he hs1
      go_wp2_with fail
      exact ⟨⟨m / 10, b :: suf, by go_num, congrArg Value.string (tx_app [b] suf), by omega, HS.out, hs3, HE.out, trivial⟩, by simp [intOf]; omega⟩
end Go.Proofs.YtpdkpkabdkefcaaGreatDoor
namespace Go.Proofs.YtpdkpkabdkefcaaGreatDoor
open Go.Sx Go.ChangeShapes Go.WideShapes Go.RowKit Go.Joins Go.Deep Go.Rp
structure Rd17 (w : World) (b : Nat) (A : Option Addr) (cap : Nat) (T : List Tok) (i : Int) (bad : Bool) : Prop where
  blk : w.heap[b]? = some (.cells #[.slice A T.length cap, .int .i64 i, .bool bad] 151 (0, 0))
  row : RAt tokE w b A T
section
variable {w : World} {b : Nat} {A : Option Addr} {cap : Nat} {T : List Tok} {i : Int} {bad : Bool}
theorem Rd17.lt (h : Rd17 w b A cap T i bad) : b < w.heap.size := (Array.getElem?_eq_some_iff.1 h.blk).1
theorem Rd17.c0 (h : Rd17 w b A cap T i bad) : w.cell? ⟨b, 0, none⟩ = some (.slice A T.length cap) := by simp [World.cell?, h.blk]
theorem Rd17.c1 (h : Rd17 w b A cap T i bad) : w.cell? ⟨b, 1, none⟩ = some (.int .i64 i) := by simp [World.cell?, h.blk]
theorem Rd17.c2 (h : Rd17 w b A cap T i bad) : w.cell? ⟨b, 2, none⟩ = some (.bool bad) := by simp [World.cell?, h.blk]
theorem Rd17.fz (h : Rd17 w b A cap T i bad) (j : Nat) : w.frozen? ⟨b, j, none⟩ = false := by simp [World.frozen?, h.blk]
theorem Rd17.below {w' : World} (h : Rd17 w b A cap T i bad) (hb : Below w.heap.size w w') : Rd17 w' b A cap T i bad :=
  ⟨(hb.block b h.lt).trans h.blk, h.row.below hb (Nat.le_of_lt h.lt)⟩
end
theorem setCell_at {w : World} {g o : Nat} {cs : Array Value} {t : TypeId} {fr : Nat × Nat} (h : w.heap[g]? = some (.cells cs t fr)) (v : Value) : (w.setCell ⟨g, o, none⟩ v).heap[g]? = some (.cells (cs.setIfInBounds o v) t fr) := by
  unfold World.setCell
  rw [Array.getElem?_modify, if_pos rfl, h]
  rfl
theorem set3 (w : World) (t : TypeId) (a b c x y z : Value) (n : Nat) :
    (((((w.alloc (.cells #[a, b, c] t)).drewN n).setCell ⟨w.heap.size, 0, none⟩ x).setCell ⟨w.heap.size, 1, none⟩ y).setCell ⟨w.heap.size, 2, none⟩ z).heap[w.heap.size]? = some (.cells #[x, y, z] t (0, 0)) := by
  have e : ((w.alloc (.cells #[a, b, c] t)).drewN n).heap[w.heap.size]? = some (.cells #[a, b, c] t (0, 0)) := heap_alloc_new w _
  exact setCell_at (setCell_at (setCell_at e x) y) z
set_option maxHeartbeats 4000000 in
theorem t17 {w : World} {b : Nat} {A : Option Addr} {cap : Nat} {T : List Tok} {i : Int} {bad : Bool} (h : Rd17 w b A cap T i bad) :
    Calls Tryz.prog 187 #[.pointer (some ⟨b, 0, none⟩)] w fun e w' => e = .returned (.agg (tokC (tokI T i))) ∧ Below w.heap.size w w' := by
  have hlt := h.lt
  have c0 := h.c0
  have c1 := h.c1
  have hr := h.row
  have b0 : Below w.heap.size w (w.alloc (.cells #[.int .i64 0, .int .i64 0, .string ⟨#[]⟩] 90)) := (Below.refl _ _).alloc (Nat.le_refl _) _
  have d0 := (b0.cell (p := ⟨b, 0, none⟩) hlt).trans c0
  have d1 := (b0.cell (p := ⟨b, 1, none⟩) hlt).trans c1
  have hr1 : RAt tokE _ b A T := hr.below b0 (Nat.le_of_lt hlt)
  clear c0 c1 hr
  cases u1 : decide (i < 0)
  · cases u2 : decide ((T.length : Int) ≤ i)
    · obtain ⟨n, rfl⟩ : ∃ n : Nat, i = n := ⟨i.toNat, by have := of_decide_eq_false u1; omega⟩
      have hn : n < T.length := by have := of_decide_eq_false u2; omega
      obtain ⟨g, off, rfl, hg, hc⟩ := hr1.at_ hn
      have k0 := hc 0 _ rfl
      have k1 := hc 1 _ rfl
      have k2 := hc 2 _ rfl
      have hk : tokI T n = T[n] := by simp [tokI, hn]; omega
      simp only [tokE, Nat.add_zero] at k0 k1 k2
      generalize T[n] = y at k0 k1 k2 hk
      rw [hk]
      clear hr1 hc hk
      go_enter Tryz.func187, Tryz.ntmps187
      go_wp2_with fail
      go_quiet (fail)
      go_wp2_with fail
      go_region_with (fail)
      all_goals go_wp2_with fail
      all_goals refine bodyPost_ret (results_cell_row rfl _ _ w.heap.size 90 _ (0, 0) _ rfl (set3 w 90 _ _ _ _ _ _ _) Tryz.underlying90 rfl (by kernel_rfl)) rfl ⟨?_, (((below_drewN b0).setCell (Nat.le_refl _) _).setCell (Nat.le_refl _) _).setCell (Nat.le_refl _) _⟩
      all_goals rfl
    · have hk : tokI T i = tok0 := by
        have h1 := of_decide_eq_false u1
        have h2 := of_decide_eq_true u2
        simp [tokI, show ¬ i < 0 by omega, List.getD, show T.length ≤ i.toNat by omega]
      rw [hk]
      go_enter Tryz.func187, Tryz.ntmps187
      go_wp2_with fail
      go_quiet (fail)
      go_wp2_with fail
      refine bodyPost_ret (results_cell_row rfl _ _ w.heap.size 90 _ (0, 0) _ rfl (set3 w 90 _ _ _ _ _ _ _) Tryz.underlying90 rfl (by kernel_rfl)) rfl ⟨?_, (((below_drewN b0).setCell (Nat.le_refl _) _).setCell (Nat.le_refl _) _).setCell (Nat.le_refl _) _⟩
      rfl
  · have hk : tokI T i = tok0 := by
      have h1 := of_decide_eq_true u1
      simp [tokI, h1]
    rw [hk]
    go_enter Tryz.func187, Tryz.ntmps187
    go_wp2_with fail
    go_quiet (fail)
    go_wp2_with fail
    refine bodyPost_ret (results_cell_row rfl _ _ w.heap.size 90 _ (0, 0) _ rfl (set3 w 90 _ _ _ _ _ _ _) Tryz.underlying90 rfl (by kernel_rfl)) rfl ⟨?_, (((below_drewN b0).setCell (Nat.le_refl _) _).setCell (Nat.le_refl _) _).setCell (Nat.le_refl _) _⟩
    rfl
theorem Rd17.allocC2 {w : World} {b : Nat} {A : Option Addr} {cap : Nat} {T : List Tok} {i : Int} {bad : Bool} (h : Rd17 w b A cap T i bad) (o : Obj) : (w.alloc o).cell? ⟨b, 2, none⟩ = some (.bool bad) :=
  (((Below.refl w.heap.size w).alloc (Nat.le_refl _) o).cell (p := ⟨b, 2, none⟩) h.lt).trans h.c2
theorem is17 {w : World} {b : Nat} {A : Option Addr} {cap : Nat} {T : List Tok} {i : Int} {bad : Bool} (h : Rd17 w b A cap T i bad) (s : Bs) :
    Calls Tryz.prog 188 #[.pointer (some ⟨b, 0, none⟩), .string (tx s)] w fun e w' => e = .returned (.bool (!bad && isS (tokI T i) s)) ∧ Below w.heap.size w w' := by
  have ht := t17 h
  have hR : ∀ w', Below w.heap.size w w' → Rd17 w' b A cap T i bad := fun w' hb => h.below hb
  generalize tokI T i = y at ht ⊢
  have hS : isS y s = ((y.k == 3) && (y.t == s)) := rfl
  rw [hS]
  clear hS
  cases bad
  · cases e3 : (y.k == 3)
    · go_enter Tryz.func188, Tryz.ntmps188
      go_wp2_with fail
      ((with_reducible refine ht.mono ?_); rintro e w1 ⟨rfl, hb1⟩)
      have c2 := (hR w1 hb1).allocC2
      clear hR ht h
      go_wp2_with fail
      exact bodyPost_ret (results_tmp rfl _ _ _) rfl ⟨rfl, hb1.alloc hb1.size _⟩
    · go_enter Tryz.func188, Tryz.ntmps188
      go_wp2_with fail
      ((with_reducible refine ht.mono ?_); rintro e w1 ⟨rfl, hb1⟩)
      have c2 := (hR w1 hb1).allocC2
      clear hR ht h
      go_wp2_with fail
      refine bodyPost_ret (results_tmp rfl _ _ _) rfl ⟨?_, hb1.alloc hb1.size _⟩
      simp
  · go_enter Tryz.func188, Tryz.ntmps188
    go_wp2_with fail
    ((with_reducible refine ht.mono ?_); rintro e w1 ⟨rfl, hb1⟩)
    have c2 := (hR w1 hb1).allocC2
    clear hR ht h
    go_wp2_with fail
    exact bodyPost_ret (results_tmp rfl _ _ _) rfl ⟨rfl, hb1.alloc hb1.size _⟩
theorem RAt.setCell {α : Type} {E : Ele α} {w : World} {b j : Nat} {A : Option Addr} {l : List α} (h : RAt E w b A l) (v : Value) : RAt E (w.setCell ⟨b, j, none⟩ v) b A l :=
  h.keep fun p hp u hu => (World.cell?_of_block (Below.heap_setCell w ⟨b, j, none⟩ v p.block (by show p.block ≠ b; omega))).trans hu
theorem take17 {w : World} {b : Nat} {A : Option Addr} {cap : Nat} {T : List Tok} {n : Nat} {bad : Bool} (h : Rd17 w b A cap T n bad) (hn : n ≤ 1000000) (s : Bs) :
    Calls Tryz.prog 185 #[.pointer (some ⟨b, 0, none⟩), .string (tx s)] w fun e w' => e = .returned (.bool (!bad && isS (tokA T n) s)) ∧ Rd17 w' b A cap T (if (!bad && isS (tokA T n) s) = true then (n + 1 : Nat) else n) bad ∧ Stay b w w' := by
  have hi := is17 h s
  have hk : tokI T n = tokA T n := by simp [tokI, tokA]; omega
  rw [hk] at hi
  have hR : ∀ w', Below w.heap.size w w' → Rd17 w' b A cap T n bad := fun w' hb => h.below hb
  clear hk h
  generalize (!bad && isS (tokA T n) s) = r at hi ⊢
  go_enter Tryz.func185, Tryz.ntmps185
  go_wp2_with fail
  ((with_reducible refine hi.mono ?_); rintro e w1 ⟨rfl, hb1⟩)
  have h1 := hR w1 hb1
  clear hR hi
  cases r
  · go_wp2_with fail
    exact bodyPost_ret (results_tmp rfl _ _ _) rfl ⟨rfl, h1, Stay.of_below hb1⟩
  · have c1 := h1.c1
    have f1 := h1.fz 1
    go_wp2_with fail
    exact bodyPost_ret (results_tmp rfl _ _ _) rfl ⟨rfl, ⟨setCell_at h1.blk _, h1.row.setCell _⟩, (Stay.of_below hb1).trans (Stay.set _ _ _)⟩
theorem must17 {w : World} {b : Nat} {A : Option Addr} {cap : Nat} {T : List Tok} {n : Nat} {bad : Bool} (h : Rd17 w b A cap T n bad) (hn : n ≤ 1000000) (s : Bs) :
    Calls Tryz.prog 186 #[.pointer (some ⟨b, 0, none⟩), .string (tx s)] w fun e w' => e = .returned (.tuple #[]) ∧ Rd17 w' b A cap T (if (!bad && isS (tokA T n) s) = true then (n + 1 : Nat) else n) (bad || !(isS (tokA T n) s)) ∧ Stay b w w' := by
  have hi := take17 h hn s
  have hr : (bad || !(isS (tokA T n) s)) = !(!bad && isS (tokA T n) s) := by cases bad <;> simp
  rw [hr]
  clear hr
  have hb0 : (!bad && isS (tokA T n) s) = true → bad = false := by cases bad <;> simp
  generalize (!bad && isS (tokA T n) s) = r at hi hb0 ⊢
  go_enter Tryz.func186, Tryz.ntmps186
  go_wp2_with fail
  ((with_reducible refine hi.mono ?_); rintro e w1 ⟨rfl, h1, hs1⟩)
  clear hi
  cases r
  · have c2 := h1.c2
    have f2 := h1.fz 2
    go_wp2_with fail
    exact bodyPost_end (results_none rfl _ _ _) rfl ⟨rfl, ⟨setCell_at h1.blk _, h1.row.setCell _⟩, hs1.trans (Stay.set _ _ _)⟩
  · obtain rfl := hb0 rfl
    go_wp2_with fail
    exact bodyPost_end (results_none rfl _ _ _) rfl ⟨rfl, h1, hs1⟩
end Go.Proofs.YtpdkpkabdkefcaaGreatDoor
namespace Go.Proofs.YtpdkpkabdkefcaaGreatDoor
open Go.Sx Go.ChangeShapes Go.WideShapes Go.RowKit Go.Joins Go.Deep Go.Rp
theorem tokI_nat (T : List Tok) (n : Nat) : tokI T n = tokA T n := by simp [tokI, tokA]; omega
theorem op17 {w : World} {b : Nat} {A : Option Addr} {cap : Nat} {T : List Tok} {n : Nat} (h : Rd17 w b A cap T n false) (lvl : Int) (hl : lvl = 1 ∨ lvl = 2 ∨ lvl = 3 ∨ lvl = 4 ∨ lvl = 5) :
    Calls Tryz.prog 181 #[.pointer (some ⟨b, 0, none⟩), .int .i64 lvl] w fun e w' => e = .returned (.int .i64 (opT (tokA T n) lvl)) ∧ Below w.heap.size w w' := by
  have hi : ∀ w', Below w.heap.size w w' → ∀ s, Calls Tryz.prog 188 #[.pointer (some ⟨b, 0, none⟩), .string (tx s)] w' fun e w'' => e = .returned (.bool (isS (tokA T n) s)) ∧ Below w'.heap.size w' w'' := by
    intro w' hb s
    have := is17 (h.below hb) s
    rw [tokI_nat] at this
    exact this
  clear h
  generalize tokA T n = y at hi ⊢
  rcases hl with rfl | rfl | rfl | rfl | rfl
  · have hi0 := hi w (Below.refl _ _) [124]
    have hv : opT y 1 = (if isS y [124] then 9 else 0) := rfl
    rw [hv]
    clear hv
    generalize isS y [124] = q at hi0 ⊢
    go_enter Tryz.func181, Tryz.ntmps181
    go_wp2_with fail
    ((with_reducible refine hi0.mono ?_); rintro e w1 ⟨rfl, hb1⟩)
    cases q
    · go_wp2_with fail
      exact bodyPost_ret (results_tmp rfl _ _ _) rfl ⟨rfl, hb1⟩
    · go_wp2_with fail
      exact bodyPost_ret (results_tmp rfl _ _ _) rfl ⟨rfl, hb1⟩
  · have hi0 := hi w (Below.refl _ _) [38]
    have hv : opT y 2 = (if isS y [38] then 8 else 0) := rfl
    rw [hv]
    clear hv
    generalize isS y [38] = q at hi0 ⊢
    go_enter Tryz.func181, Tryz.ntmps181
    go_wp2_with fail
    ((with_reducible refine hi0.mono ?_); rintro e w1 ⟨rfl, hb1⟩)
    cases q
    · go_wp2_with fail
      exact bodyPost_ret (results_tmp rfl _ _ _) rfl ⟨rfl, hb1⟩
    · go_wp2_with fail
      exact bodyPost_ret (results_tmp rfl _ _ _) rfl ⟨rfl, hb1⟩
  · have hi0 := hi w (Below.refl _ _) [60, 60]
    have hv : opT y 3 = (if isS y [60, 60] then 10 else if isS y [62, 62] then 11 else 0) := rfl
    rw [hv]
    clear hv
    generalize isS y [60, 60] = q at hi0 ⊢
    have hi1 := fun w' hb => hi w' hb [62, 62]
    generalize isS y [62, 62] = q1 at hi1 ⊢
    go_enter Tryz.func181, Tryz.ntmps181
    go_wp2_with fail
    ((with_reducible refine hi0.mono ?_); rintro e w1 ⟨rfl, hb1⟩)
    cases q
    · go_wp2_with fail
      ((with_reducible refine (hi1 w1 hb1).mono ?_); rintro e w2 ⟨rfl, hb2⟩)
      cases q1
      · go_wp2_with fail
        exact bodyPost_ret (results_tmp rfl _ _ _) rfl ⟨rfl, hb1.trans (hb2.mono hb1.size)⟩
      · go_wp2_with fail
        exact bodyPost_ret (results_tmp rfl _ _ _) rfl ⟨rfl, hb1.trans (hb2.mono hb1.size)⟩
    · go_wp2_with fail
      exact bodyPost_ret (results_tmp rfl _ _ _) rfl ⟨rfl, hb1⟩
  · have hi0 := hi w (Below.refl _ _) [43]
    have hv : opT y 4 = (if isS y [43] then 5 else if isS y [45] then 6 else 0) := rfl
    rw [hv]
    clear hv
    generalize isS y [43] = q at hi0 ⊢
    have hi1 := fun w' hb => hi w' hb [45]
    generalize isS y [45] = q1 at hi1 ⊢
    go_enter Tryz.func181, Tryz.ntmps181
    go_wp2_with fail
    ((with_reducible refine hi0.mono ?_); rintro e w1 ⟨rfl, hb1⟩)
    cases q
    · go_wp2_with fail
      ((with_reducible refine (hi1 w1 hb1).mono ?_); rintro e w2 ⟨rfl, hb2⟩)
      cases q1
      · go_wp2_with fail
        exact bodyPost_ret (results_tmp rfl _ _ _) rfl ⟨rfl, hb1.trans (hb2.mono hb1.size)⟩
      · go_wp2_with fail
        exact bodyPost_ret (results_tmp rfl _ _ _) rfl ⟨rfl, hb1.trans (hb2.mono hb1.size)⟩
    · go_wp2_with fail
      exact bodyPost_ret (results_tmp rfl _ _ _) rfl ⟨rfl, hb1⟩
  · have hi0 := hi w (Below.refl _ _) [42]
    have hv : opT y 5 = (if isS y [42] then 7 else 0) := rfl
    rw [hv]
    clear hv
    generalize isS y [42] = q at hi0 ⊢
    go_enter Tryz.func181, Tryz.ntmps181
    go_wp2_with fail
    ((with_reducible refine hi0.mono ?_); rintro e w1 ⟨rfl, hb1⟩)
    cases q
    · go_wp2_with fail
      exact bodyPost_ret (results_tmp rfl _ _ _) rfl ⟨rfl, hb1⟩
    · go_wp2_with fail
      exact bodyPost_ret (results_tmp rfl _ _ _) rfl ⟨rfl, hb1⟩
end Go.Proofs.YtpdkpkabdkefcaaGreatDoor
namespace Go.Proofs.YtpdkpkabdkefcaaGreatDoor
open Go.Sx Go.ChangeShapes Go.WideShapes Go.RowKit Go.Joins Go.Deep Go.Rp
def lenMax : Nat := 1000000000000000
abbrev exC (o n : Int) (s : Bs) (A : Option Addr) (k cap : Nat) : Array Value := #[.int .i64 o, .int .i64 n, .string (tx s), .slice A k cap]
mutual
def ExAt (w : World) (K : Nat → Prop) : Et → Value → Prop
  | .mk o n s a, v => ∃ A cap, v = .agg (exC o n s A a.length cap) ∧ (a = [] ∨ RSl A a.length cap) ∧ (a.length ≤ lenMax ∧ s.length ≤ lenMax) ∧ (a ≠ [] → ∃ g off, A = some ⟨g, off, none⟩ ∧ K g ∧ ExRow w K g a off)
def ExRow (w : World) (K : Nat → Prop) (g : Nat) : List Et → Nat → Prop
  | [], _ => True
  | x :: r, off => (∃ C : Array Value, ExAt w K x (.agg C) ∧ ∀ (j : Nat) (u : Value), C[j]? = some u → w.cell? ⟨g, off + j, none⟩ = some u) ∧ ExRow w K g r (off + 4)
end
theorem ExAt.keep {w w' : World} {K K' : Nat → Prop} (hK : ∀ g, K g → K' g) (hk : ∀ g, K g → w'.heap[g]? = w.heap[g]?) : ∀ (x : Et) (v : Value), ExAt w K x v → ExAt w' K' x v := by
  refine Et.ind fun o n s a ih v h => ?_
  simp only [ExAt] at h ⊢
  obtain ⟨A, cap, rfl, hs, hl, hr⟩ := h
  refine ⟨A, cap, rfl, hs, hl, fun hn => ?_⟩
  obtain ⟨g, off, e, hg, hc⟩ := hr hn
  refine ⟨g, off, e, hK g hg, ?_⟩
  clear hr hs hl e hn
  induction a generalizing off with
  | nil => simp only [ExRow]
  | cons x r ihr =>
    simp only [ExRow] at hc ⊢
    obtain ⟨⟨C, h1, h2⟩, h3⟩ := hc
    exact ⟨⟨C, ih x (by simp) _ h1, fun j u hu => (World.cell?_of_block (a := ⟨g, off + j, none⟩) (hk g hg)).trans (h2 j u hu)⟩, ihr (fun y hy => ih y (by simp [hy])) _ h3⟩
theorem ExRow.at_ {w : World} {K : Nat → Prop} {g : Nat} : ∀ (a : List Et) (off k : Nat) (hk : k < a.length), ExRow w K g a off → ∃ C : Array Value, ExAt w K a[k] (.agg C) ∧ ∀ (j : Nat) (u : Value), C[j]? = some u → w.cell? ⟨g, off + k * 4 + j, none⟩ = some u
  | [], _, _, hk, _ => by simp at hk
  | x :: r, off, 0, _, h => by
    simp only [ExRow] at h
    simpa using h.1
  | x :: r, off, k + 1, hk, h => by
    simp only [ExRow] at h
    have := ExRow.at_ r (off + 4) k (by simpa using hk) h.2
    rw [show off + (k + 1) * 4 = off + 4 + k * 4 by omega]
    exact this
theorem exAt0 (w : World) (K : Nat → Prop) : ExAt w K ex0 (.agg (exC 0 0 [] none 0 0)) := by
  simp only [ex0, ExAt]
  exact ⟨none, 0, rfl, (by simp), ⟨Nat.zero_le _, Nat.zero_le _⟩, fun h => absurd rfl h⟩
theorem exAtN (w : World) (K : Nat → Prop) (o n : Int) (s : Bs) (hs : s.length ≤ 1000000000000) : ExAt w K (.mk o n s []) (.agg (exC o n s none 0 0)) := by
  simp only [ExAt]
  exact ⟨none, 0, rfl, (by simp), ⟨Nat.zero_le _, by unfold lenMax; omega⟩, fun h => absurd rfl h⟩
theorem exAt1 {w : World} {K : Nat → Prop} {x : Et} {C : Array Value} (o n : Int) (s : Bs) (hs : s.length ≤ 1000000000000) {g : Nat} (hg : K g) (hx : ExAt w K x (.agg C)) (hc : ∀ (j : Nat) (u : Value), C[j]? = some u → w.cell? ⟨g, j, none⟩ = some u) :
    ExAt w K (.mk o n s [x]) (.agg (exC o n s (some ⟨g, 0, none⟩) 1 1)) := by
  simp only [ExAt]
  refine ⟨_, 1, rfl, .inr (.inr ⟨Nat.le_refl _, _, _, rfl⟩), ⟨by unfold lenMax; simp, by unfold lenMax; omega⟩, fun _ => ⟨g, 0, rfl, hg, ?_⟩⟩
  simp only [ExRow]
  exact ⟨⟨C, hx, fun j u hu => by rw [Nat.zero_add]; exact hc j u hu⟩, trivial⟩
theorem exAt2 {w : World} {K : Nat → Prop} {x y : Et} {C D : Array Value} (o n : Int) (s : Bs) (hs : s.length ≤ 1000000000000) {g : Nat} (hg : K g) (hx : ExAt w K x (.agg C)) (hy : ExAt w K y (.agg D)) (hc : ∀ (j : Nat) (u : Value), C[j]? = some u → w.cell? ⟨g, j, none⟩ = some u)
    (hd : ∀ (j : Nat) (u : Value), D[j]? = some u → w.cell? ⟨g, 4 + j, none⟩ = some u) :
    ExAt w K (.mk o n s [x, y]) (.agg (exC o n s (some ⟨g, 0, none⟩) 2 2)) := by
  simp only [ExAt]
  refine ⟨_, 2, rfl, .inr (.inr ⟨Nat.le_refl _, _, _, rfl⟩), ⟨by unfold lenMax; simp, by unfold lenMax; omega⟩, fun _ => ⟨g, 0, rfl, hg, ?_⟩⟩
  simp only [ExRow]
  exact ⟨⟨C, hx, fun j u hu => by rw [Nat.zero_add]; exact hc j u hu⟩, ⟨D, hy, fun j u hu => by rw [Nat.zero_add]; exact hd j u hu⟩, trivial⟩
theorem ExAt.cells {w : World} {K : Nat → Prop} {x : Et} {v : Value} (h : ExAt w K x v) : ∃ o n s A k cap, v = .agg (exC o n s A k cap) := by
  obtain ⟨o, n, s, a⟩ := x
  simp only [ExAt] at h
  obtain ⟨A, cap, rfl, _⟩ := h
  exact ⟨_, _, _, _, _, _, rfl⟩
theorem setA (w : World) (g : Nat) (t : TypeId) (c0 c1 c2 c3 x0 x1 x2 x3 : Value) (h : w.heap[g]? = some (.cells #[c0, c1, c2, c3] t (0, 0))) :
    ((((w.setCell ⟨g, 0, none⟩ x0).setCell ⟨g, 1, none⟩ x1).setCell ⟨g, 2, none⟩ x2).setCell ⟨g, 3, none⟩ x3).heap[g]? = some (.cells #[x0, x1, x2, x3] t (0, 0)) :=
  setCell_at (setCell_at (setCell_at (setCell_at h x0) x1) x2) x3
theorem cell4 {w : World} {g : Nat} {t : TypeId} {c0 c1 c2 c3 : Value} (h : w.heap[g]? = some (.cells #[c0, c1, c2, c3] t (0, 0))) :
    w.cell? ⟨g, 0, none⟩ = some c0 ∧ w.cell? ⟨g, 1, none⟩ = some c1 ∧ w.cell? ⟨g, 2, none⟩ = some c2 ∧ w.cell? ⟨g, 3, none⟩ = some c3 := by
  simp [World.cell?, h]
theorem froz {w : World} {g : Nat} {t : TypeId} {cs : Array Value} (h : w.heap[g]? = some (.cells cs t (0, 0))) (o : Nat) : w.frozen? ⟨g, o, none⟩ = false := by
  simp [World.frozen?, h]
theorem alloc_blk {w : World} {g : Nat} {x : Obj} (h : w.heap[g]? = some x) (o : Obj) : (w.alloc o).heap[g]? = some x :=
  (Below.heap_alloc w o g (Array.getElem?_eq_some_iff.1 h).1).trans h
theorem alloc_cell4 {w : World} {g : Nat} {t : TypeId} {c0 c1 c2 c3 : Value} (h : w.heap[g]? = some (.cells #[c0, c1, c2, c3] t (0, 0))) :
    (∀ o, (w.alloc o).cell? ⟨g, 0, none⟩ = some c0) ∧ (∀ o, (w.alloc o).cell? ⟨g, 1, none⟩ = some c1) ∧ (∀ o, (w.alloc o).cell? ⟨g, 2, none⟩ = some c2) ∧ (∀ o, (w.alloc o).cell? ⟨g, 3, none⟩ = some c3) ∧ ∀ o j, (w.alloc o).frozen? ⟨g, j, none⟩ = false :=
  ⟨fun o => (cell4 (alloc_blk h o)).1, fun o => (cell4 (alloc_blk h o)).2.1, fun o => (cell4 (alloc_blk h o)).2.2.1, fun o => (cell4 (alloc_blk h o)).2.2.2, fun o j => froz (alloc_blk h o) j⟩
theorem set_blk {w : World} {g b : Nat} {x : Obj} (h : w.heap[g]? = some x) (hne : g ≠ b) (o : Nat) (v : Value) : (w.setCell ⟨b, o, none⟩ v).heap[g]? = some x := (Below.heap_setCell w ⟨b, o, none⟩ v g hne).trans h
theorem alloc_set_cell4 {w : World} {g b k : Nat} {t : TypeId} {c0 c1 c2 c3 : Value} (h : w.heap[g]? = some (.cells #[c0, c1, c2, c3] t (0, 0))) (hne : g ≠ b) :
    (∀ o v, ((w.alloc o).setCell ⟨b, k, none⟩ v).cell? ⟨g, 0, none⟩ = some c0) ∧ (∀ o v, ((w.alloc o).setCell ⟨b, k, none⟩ v).cell? ⟨g, 1, none⟩ = some c1) ∧ (∀ o v, ((w.alloc o).setCell ⟨b, k, none⟩ v).cell? ⟨g, 2, none⟩ = some c2) ∧ (∀ o v, ((w.alloc o).setCell ⟨b, k, none⟩ v).cell? ⟨g, 3, none⟩ = some c3) ∧ ∀ o v j, ((w.alloc o).setCell ⟨b, k, none⟩ v).frozen? ⟨g, j, none⟩ = false :=
  ⟨fun o v => (cell4 (set_blk (alloc_blk h o) hne k v)).1, fun o v => (cell4 (set_blk (alloc_blk h o) hne k v)).2.1, fun o v => (cell4 (set_blk (alloc_blk h o) hne k v)).2.2.1, fun o v => (cell4 (set_blk (alloc_blk h o) hne k v)).2.2.2, fun o v j => froz (set_blk (alloc_blk h o) hne k v) j⟩
theorem new_set_cell {w : World} {b k : Nat} (hb : b < w.heap.size) (cs : Array Value) (t : TypeId) (v : Value) (j : Nat) : ((w.alloc (.cells cs t)).setCell ⟨b, k, none⟩ v).cell? ⟨w.heap.size, j, none⟩ = cs[j]? :=
  (World.cell?_of_block (Below.heap_setCell _ ⟨b, k, none⟩ v w.heap.size (by show w.heap.size ≠ b; omega))).trans (World.cell?_alloc_mark ..)
end Go.Proofs.YtpdkpkabdkefcaaGreatDoor
namespace Go.Proofs.YtpdkpkabdkefcaaGreatDoor
open Go.Sx Go.ChangeShapes Go.WideShapes Go.RowKit Go.Joins Go.Deep Go.Rp
structure TermRes (T : List Tok) (b : Nat) (A : Option Addr) (cap : Nat) (R : Option (Et × Nat)) (w : World) (x : Et) (C : Array Value) (j : Nat) (bad : Bool) (w' : World) : Prop where
  at_ : ExAt w' (fun g => w.heap.size < g ∧ g < w'.heap.size) x (.agg C)
  rd : Rd17 w' b A cap T j bad
  le : j ≤ T.length
  stay : Stay b w w'
  yes : ∀ p, R = some p → bad = false ∧ x = p.1 ∧ j = p.2
  no : R = none → bad = true
def TermPost (T : List Tok) (b : Nat) (A : Option Addr) (cap : Nat) (R : Option (Et × Nat)) (w : World) (e : Ending) (w' : World) : Prop :=
  ∃ x C j bad, e = .returned (.agg C) ∧ TermRes T b A cap R w x C j bad w'
def UnOk (T : List Tok) (b : Nat) (A : Option Addr) (cap : Nat) (f : Nat) : Prop :=
  ∀ (w : World) (n : Nat), Rd17 w b A cap T n false → n ≤ T.length → 16 * (T.length - n) + 1 ≤ f → Calls Tryz.prog 180 #[.pointer (some ⟨b, 0, none⟩)] w (TermPost T b A cap (unF T f n) w)
def TmOk (T : List Tok) (b : Nat) (A : Option Addr) (cap : Nat) (f : Nat) : Prop :=
  ∀ (w : World) (n : Nat) (lvl : Int), Rd17 w b A cap T n false → n ≤ T.length → 1 ≤ lvl → lvl ≤ 6 → 16 * (T.length - n) + 2 + (6 - lvl).toNat ≤ f → Calls Tryz.prog 168 #[.pointer (some ⟨b, 0, none⟩), .int .i64 lvl] w (TermPost T b A cap (termF T f lvl n) w)
theorem setA_old (w : World) (g : Nat) (x0 x1 x2 x3 : Value) (q : Nat) (hq : q ≠ g) :
    ((((w.setCell ⟨g, 0, none⟩ x0).setCell ⟨g, 1, none⟩ x1).setCell ⟨g, 2, none⟩ x2).setCell ⟨g, 3, none⟩ x3).heap[q]? = w.heap[q]? := by
  rw [Below.heap_setCell _ _ _ _ (by exact hq), Below.heap_setCell _ _ _ _ (by exact hq), Below.heap_setCell _ _ _ _ (by exact hq), Below.heap_setCell _ _ _ _ (by exact hq)]
theorem setA_size (w : World) (g : Nat) (x0 x1 x2 x3 : Value) : ((((w.setCell ⟨g, 0, none⟩ x0).setCell ⟨g, 1, none⟩ x1).setCell ⟨g, 2, none⟩ x2).setCell ⟨g, 3, none⟩ x3).heap.size = w.heap.size := by
  simp [World.setCell]
theorem Rd17.of {w w' : World} {b : Nat} {A : Option Addr} {cap : Nat} {T : List Tok} {i : Int} {bad : Bool} (h : Rd17 w b A cap T i bad) (hk : ∀ q, q ≤ b → w'.heap[q]? = w.heap[q]?) : Rd17 w' b A cap T i bad :=
  ⟨(hk b (Nat.le_refl _)).trans h.blk, h.row.keep fun p hp _ hu => (World.cell?_of_block (hk p.block (Nat.le_of_lt hp))).trans hu⟩
theorem Rd17.set1 {w : World} {b : Nat} {A : Option Addr} {cap : Nat} {T : List Tok} {i : Int} {bad : Bool} (h : Rd17 w b A cap T i bad) (j : Int) : Rd17 (w.setCell ⟨b, 1, none⟩ (.int .i64 j)) b A cap T j bad := ⟨setCell_at h.blk _, h.row.setCell _⟩
theorem Rd17.set2 {w : World} {b : Nat} {A : Option Addr} {cap : Nat} {T : List Tok} {i : Int} {bad : Bool} (h : Rd17 w b A cap T i bad) (c : Bool) : Rd17 (w.setCell ⟨b, 2, none⟩ (.bool c)) b A cap T i c := ⟨setCell_at h.blk _, h.row.setCell _⟩
theorem res_put {T : List Tok} {b : Nat} {A : Option Addr} {cap : Nat} {R : Option (Et × Nat)} {w W : World} {x : Et} {x0 x1 x2 x3 : Value} {j : Nat} {bad : Bool}
    (hb : b < w.heap.size) (he : ExAt W (fun g => w.heap.size < g ∧ g < W.heap.size) x (.agg #[x0, x1, x2, x3])) (hr : Rd17 W b A cap T j bad) (hj : j ≤ T.length) (hs : Stay b w W)
    (hy : ∀ p, R = some p → bad = false ∧ x = p.1 ∧ j = p.2) (hn : R = none → bad = true) :
    TermRes T b A cap R w x #[x0, x1, x2, x3] j bad ((((W.setCell ⟨w.heap.size, 0, none⟩ x0).setCell ⟨w.heap.size, 1, none⟩ x1).setCell ⟨w.heap.size, 2, none⟩ x2).setCell ⟨w.heap.size, 3, none⟩ x3) := by
  refine ⟨?_, ?_, hj, ?_, hy, hn⟩
  · refine ExAt.keep (fun g hg => ?_) (fun g hg => ?_) x _ he
    · rw [setA_size]; exact hg
    · exact setA_old W _ _ _ _ _ g (by omega)
  · exact hr.of fun q hq => setA_old W _ _ _ _ _ q (by omega)
  · refine ⟨hs.os, hs.tape, hs.output, ?_, fun k hk hn => ?_⟩
    · rw [setA_size]; exact hs.size
    · rw [setA_old W _ _ _ _ _ k (by omega)]; exact hs.block k hk hn
theorem new_cells {w : World} {cs : Array Value} {t : TypeId} (j : Nat) (u : Value) (h : cs[j]? = some u) : (w.alloc (.cells cs t)).cell? ⟨w.heap.size, j, none⟩ = some u := by
  rw [World.cell?_alloc_mark]
  exact h
set_option maxHeartbeats 4000000 in
theorem un17 (T : List Tok) (hT : T.length ≤ 900000) (hT2 : ∀ t ∈ T, t.t.length ≤ 1000000000000) (b : Nat) (A : Option Addr) (cap : Nat) (f : Nat) (ih : UnOk T b A cap f ∧ TmOk T b A cap f) : UnOk T b A cap (f + 1) := by
  intro w n h hn hf
  obtain ⟨ihu, iht⟩ := ih
  have hR : unF T (f + 1) n = (if isS (tokA T n) [45] then (unF T f (n + 1)).map fun p => (.mk 3 0 [] [p.1], p.2)
    else if isS (tokA T n) [126] then (unF T f (n + 1)).map fun p => (.mk 4 0 [] [p.1], p.2)
    else if isS (tokA T n) [40] then (termF T f 1 (n + 1)).bind fun p => if isS (tokA T p.2) [41] then some (p.1, p.2 + 1) else none
    else if (tokA T n).k = 2 ∧ 0 ≤ (tokA T n).n ∧ (tokA T n).n < 4294967296 then some (.mk 1 (tokA T n).n [] [], n + 1)
    else if (tokA T n).k = 1 ∧ isNm (tokA T n).t = true then some (.mk 2 0 (tokA T n).t [], n + 1)
    else none) := by rw [unF]
  generalize unF T (f + 1) n = R at hR
  have HR := Lib.hid hR
  clear hR
  have b0 : Below w.heap.size w (w.alloc (.cells (exC 0 0 [] none 0 0) 47)) := (Below.refl _ _).alloc (Nat.le_refl _) _
  have h0 := h.below b0
  have hw0 : (w.alloc (.cells (exC 0 0 [] none 0 0) 47)).heap[w.heap.size]? = some (.cells (exC 0 0 [] none 0 0) 47 (0, 0)) := heap_alloc_new w _
  have hs0 : (w.alloc (.cells (exC 0 0 [] none 0 0) 47)).heap.size = w.heap.size + 1 := by simp
  have hlt := h.lt
  dsimp only [exC] at b0 h0 hw0 hs0
  go_enter Tryz.func180, Tryz.ntmps180
  go_wp2_with (fail)
  have ht1 := take17 h0 (by omega) [45]
  clear h0
  simp only [Bool.not_false, Bool.true_and] at ht1
  ((with_reducible refine ht1.mono ?_); rintro e w1 ⟨rfl, h1, st1⟩)
  have g1 : w1.heap[w.heap.size]? = some (.cells #[.int .i64 0, .int .i64 0, .string ⟨#[]⟩, .slice none 0 0] 47 (0, 0)) := (st1.block w.heap.size (by omega) (by omega)).trans hw0
  have s1 := st1.size
  rw [hs0] at s1
  have S1 : Stay b w w1 := (Stay.of_below b0).trans st1
  clear ht1 st1 hw0 hs0 b0
  cases q1 : isS (tokA T n) [45]
  rotate_left
  · rw [q1] at h1
    simp only [if_true] at h1
    have hR := HR.out
    rw [q1, if_pos rfl] at hR
    have HR := Lib.hid hR
    clear hR
    have hl := isS_lt q1
    have hu := ihu w1 (n + 1) h1 (by omega) (by omega)
    go_wp2_with (fail)
    ((with_reducible refine hu.mono ?_); rintro e w9 ⟨x, C, j, bad, rfl, hr⟩)
    obtain ⟨o, m, s, A', k, cap', hC⟩ := hr.at_.cells
    obtain rfl := Value.agg.inj hC
    have g2 : w9.heap[w.heap.size]? = some (.cells #[.int .i64 0, .int .i64 0, .string ⟨#[]⟩, .slice none 0 0] 47 (0, 0)) := (hr.stay.block w.heap.size (by omega) (by omega)).trans g1
    obtain ⟨c0, c1, c2, c3, cf⟩ := alloc_cell4 g2
    go_wp2_with (fail)
    have hA : Below w9.heap.size w9 (w9.alloc (.cells (exC o m s A' k cap') 47)) := (Below.refl _ _).alloc (Nat.le_refl _) _
    have hsz : (w9.alloc (.cells (exC o m s A' k cap') 47)).heap.size = w9.heap.size + 1 := by simp
    have s9 := hr.stay.size
    refine bodyPost_ret (results_cell_row rfl _ _ w.heap.size 47 _ (0, 0) _ rfl (setA _ w.heap.size 47 _ _ _ _ _ _ _ _ (alloc_blk g2 _)) Tryz.underlying47 rfl (by kernel_rfl)) rfl
      ⟨.mk 3 0 [] [x], _, j, bad, rfl, res_put hlt ?_ (hr.rd.below hA) hr.le ((S1.trans hr.stay).trans (Stay.of_below hA)) ?_ ?_⟩
    · refine exAt1 3 0 [] (by simp) (by rw [hsz]; omega) (ExAt.keep (fun g hg => by rw [hsz]; omega) (fun g hg => hA.block g hg.2) x _ hr.at_) (fun i u hu => new_cells i u hu)
    · intro p hp
      rw [HR.out, Option.map_eq_some_iff] at hp
      obtain ⟨p', hp', rfl⟩ := hp
      obtain ⟨e1, e2, e3⟩ := hr.yes p' hp'
      exact ⟨e1, by rw [e2], e3⟩
    · intro hp
      rw [HR.out, Option.map_eq_none_iff] at hp
      exact hr.no hp
  rw [q1] at h1
  simp only [if_false, Bool.false_eq_true] at h1
  have hR := HR.out
  rw [q1, if_neg Bool.false_ne_true] at hR
  have HR := Lib.hid hR
  clear hR
  have ht2 := take17 h1 (by omega) [126]
  simp only [Bool.not_false, Bool.true_and] at ht2
  go_wp2_with (fail)
  ((with_reducible refine ht2.mono ?_); rintro e w2 ⟨rfl, h2, st2⟩)
  have g2 := (st2.block w.heap.size (by omega) (by omega)).trans g1
  have s2 : w.heap.size + 1 ≤ w2.heap.size := Nat.le_trans s1 st2.size
  have S2 : Stay b w w2 := S1.trans st2
  clear ht2 st2
  cases q2 : isS (tokA T n) [126]
  rotate_left
  · rw [q2] at h2
    simp only [if_true] at h2
    have hR := HR.out
    rw [q2, if_pos rfl] at hR
    have HR := Lib.hid hR
    clear hR
    have hl := isS_lt q2
    have hu := ihu w2 (n + 1) h2 (by omega) (by omega)
    go_wp2_with (fail)
    ((with_reducible refine hu.mono ?_); rintro e w9 ⟨x, C, j, bad, rfl, hr⟩)
    obtain ⟨o, m, s, A', k, cap', hC⟩ := hr.at_.cells
    obtain rfl := Value.agg.inj hC
    have g2 : w9.heap[w.heap.size]? = some (.cells #[.int .i64 0, .int .i64 0, .string ⟨#[]⟩, .slice none 0 0] 47 (0, 0)) := (hr.stay.block w.heap.size (by omega) (by omega)).trans g2
    obtain ⟨c0, c1, c2, c3, cf⟩ := alloc_cell4 g2
    go_wp2_with (fail)
    have hA : Below w9.heap.size w9 (w9.alloc (.cells (exC o m s A' k cap') 47)) := (Below.refl _ _).alloc (Nat.le_refl _) _
    have hsz : (w9.alloc (.cells (exC o m s A' k cap') 47)).heap.size = w9.heap.size + 1 := by simp
    have s9 := hr.stay.size
    refine bodyPost_ret (results_cell_row rfl _ _ w.heap.size 47 _ (0, 0) _ rfl (setA _ w.heap.size 47 _ _ _ _ _ _ _ _ (alloc_blk g2 _)) Tryz.underlying47 rfl (by kernel_rfl)) rfl
      ⟨.mk 4 0 [] [x], _, j, bad, rfl, res_put hlt ?_ (hr.rd.below hA) hr.le ((S2.trans hr.stay).trans (Stay.of_below hA)) ?_ ?_⟩
    · refine exAt1 4 0 [] (by simp) (by rw [hsz]; omega) (ExAt.keep (fun g hg => by rw [hsz]; omega) (fun g hg => hA.block g hg.2) x _ hr.at_) (fun i u hu => new_cells i u hu)
    · intro p hp
      rw [HR.out, Option.map_eq_some_iff] at hp
      obtain ⟨p', hp', rfl⟩ := hp
      obtain ⟨e1, e2, e3⟩ := hr.yes p' hp'
      exact ⟨e1, by rw [e2], e3⟩
    · intro hp
      rw [HR.out, Option.map_eq_none_iff] at hp
      exact hr.no hp
  rw [q2] at h2
  simp only [if_false, Bool.false_eq_true] at h2
  have hR := HR.out
  rw [q2, if_neg Bool.false_ne_true] at hR
  have HR := Lib.hid hR
  clear hR
  have ht3 := take17 h2 (by omega) [40]
  simp only [Bool.not_false, Bool.true_and] at ht3
  go_wp2_with (fail)
  ((with_reducible refine ht3.mono ?_); rintro e w3 ⟨rfl, h3, st3⟩)
  have g3 := (st3.block w.heap.size (by omega) (by omega)).trans g2
  have s3 : w.heap.size + 1 ≤ w3.heap.size := Nat.le_trans s2 st3.size
  have S3 : Stay b w w3 := S2.trans st3
  clear ht3 st3
  cases q3 : isS (tokA T n) [40]
  rotate_left
  · rw [q3] at h3
    simp only [if_true] at h3
    have hR := HR.out
    rw [q3, if_pos rfl] at hR
    have HR := Lib.hid hR
    clear hR
    have hl := isS_lt q3
    have hu := iht w3 (n + 1) 1 h3 (by omega) (by omega) (by omega) (by omega)
    go_wp2_with (fail)
    ((with_reducible refine hu.mono ?_); rintro e w9 ⟨x, C, j, bad, rfl, hr⟩)
    obtain ⟨o, m, s, A', k, cap', hC⟩ := hr.at_.cells
    obtain rfl := Value.agg.inj hC
    have g2 : w9.heap[w.heap.size]? = some (.cells #[.int .i64 0, .int .i64 0, .string ⟨#[]⟩, .slice none 0 0] 47 (0, 0)) := (hr.stay.block w.heap.size (by omega) (by omega)).trans g3
    have hA : Below w9.heap.size w9 (w9.alloc (.cells (exC o m s A' k cap') 47)) := (Below.refl _ _).alloc (Nat.le_refl _) _
    have hsz : (w9.alloc (.cells (exC o m s A' k cap') 47)).heap.size = w9.heap.size + 1 := by simp
    have s9 := hr.stay.size
    have hm := must17 (hr.rd.below hA) (by have := hr.le; omega) [41]
    have gA := alloc_blk g2 (.cells (exC o m s A' k cap') 47)
    have gN : (w9.alloc (.cells (exC o m s A' k cap') 47)).heap[w9.heap.size]? = some (.cells (exC o m s A' k cap') 47 (0, 0)) := heap_alloc_new w9 _
    have atA := ExAt.keep (K' := fun g => w.heap.size < g ∧ g < w9.heap.size) (w' := w9.alloc (.cells (exC o m s A' k cap') 47)) (fun g hg => by omega) (fun g hg => hA.block g hg.2) x _ hr.at_
    have SA : Stay b w (w9.alloc (.cells (exC o m s A' k cap') 47)) := (S3.trans hr.stay).trans (Stay.of_below hA)
    dsimp only [exC] at hm gA gN atA SA hsz
    clear hA
    go_wp2_with (fail)
    generalize w9.alloc (.cells #[.int .i64 o, .int .i64 m, .string (tx s), .slice A' k cap'] 47) = W9 at hm gA gN atA SA hsz
    ((with_reducible refine hm.mono ?_); rintro e w10 ⟨rfl, h10, st10⟩)
    have gB := (st10.block w.heap.size (by omega) (by omega)).trans gA
    have gM := (st10.block w9.heap.size (by omega) (by omega)).trans gN
    obtain ⟨c0, c1, c2, c3⟩ := cell4 gB
    obtain ⟨d0, d1, d2, d3⟩ := cell4 gM
    have cf := froz gB
    have s10 := st10.size
    have h10 : Rd17 w10 b A cap T (((if (!bad && isS (tokA T j) [41]) = true then j + 1 else j : Nat)) : Int) (bad || !isS (tokA T j) [41]) := by
      split <;> rename_i hc <;> simp only [hc, if_true, if_false, Bool.false_eq_true] at h10 <;> exact h10
    clear hm
    go_wp2_with (fail)
    refine bodyPost_ret (results_cell_row rfl _ _ w.heap.size 47 _ (0, 0) _ rfl (setA _ w.heap.size 47 _ _ _ _ _ _ _ _ gB) Tryz.underlying47 rfl (by kernel_rfl)) rfl
      ⟨x, _, _, _, rfl, res_put hlt ?_ h10 ?_ (SA.trans st10) ?_ ?_⟩
    · exact ExAt.keep (fun g hg => by omega) (fun g hg => st10.block g (by omega) (by omega)) x _ atA
    · split
      · rename_i hc
        have := isS_lt (Bool.and_eq_true .. ▸ hc).2
        omega
      · exact hr.le
    · intro p hp
      rw [HR.out, Option.bind_eq_some_iff] at hp
      obtain ⟨p', hp', hp⟩ := hp
      obtain ⟨rfl, rfl, rfl⟩ := hr.yes p' hp'
      split at hp
      · rename_i hc
        obtain rfl := Option.some.inj hp
        simp [hc]
      · cases hp
    · intro hp
      rw [HR.out] at hp
      cases hq : termF T f 1 (n + 1) with
      | none => rw [hr.no hq]; rfl
      | some p' =>
        obtain ⟨rfl, rfl, rfl⟩ := hr.yes p' hq
        rw [hq] at hp
        simp only [Option.bind_some] at hp
        split at hp
        · cases hp
        · rename_i hc
          simp [hc]
  rw [q3] at h3
  simp only [if_false, Bool.false_eq_true] at h3
  have hR := HR.out
  rw [q3, if_neg Bool.false_ne_true] at hR
  have HR := Lib.hid hR
  clear hR
  have ht := t17 h3
  have hnm : (tokA T n).t.length ≤ 1000000000000 := by
    unfold tokA
    rw [List.getD_eq_getElem?_getD]
    cases hq : T[n]? with
    | none => decide
    | some y => exact hT2 y (List.mem_of_getElem? hq)
  have hk0 : (tokA T n).k ≠ 0 → n < T.length := tokA_lt
  rw [tokI_nat] at ht
  generalize tokA T n = y at ht HR hnm hk0
  go_wp2_with (fail)
  ((with_reducible refine ht.mono ?_); rintro e w4 ⟨rfl, hb4⟩)
  have h4 := h3.below hb4
  have g4 := (hb4.block w.heap.size (by omega)).trans g3
  have hne : w.heap.size ≠ b := by omega
  have c2 := h4.allocC2
  have c1 := fun o => (h4.below ((Below.refl w4.heap.size w4).alloc (Nat.le_refl _) o)).c1
  have fb := fun o j => (h4.below ((Below.refl w4.heap.size w4).alloc (Nat.le_refl _) o)).fz j
  have nsc := new_set_cell (k := 1) h4.lt
  have hB := fun o => h4.below ((Below.refl w4.heap.size w4).alloc (Nat.le_refl _) o)
  have hnb : n ≤ 900000 := by omega
  clear ht h3 h2 h1 g1 g2 g3
  cases e2 : (y.k == 2)
  · have e2' : y.k ≠ 2 := by simpa using e2
    have hR := HR.out
    rw [if_neg (fun h => e2' h.1)] at hR
    have HR := Lib.hid hR
    clear hR
    cases e1 : (y.k == 1)
    · have e1' : y.k ≠ 1 := by simpa using e1
      obtain ⟨d0, d1, d2, d3, df⟩ := alloc_set_cell4 (k := 2) g4 hne
      have hR := HR.out
      rw [if_neg (fun h => e1' h.1)] at hR
      have HR := Lib.hid hR
      clear hR
      go_wp2_with (fail)
      refine bodyPost_ret (results_cell_row rfl _ _ w.heap.size 47 _ (0, 0) _ rfl (setA _ w.heap.size 47 _ _ _ _ _ _ _ _ (set_blk (alloc_blk g4 _) hne 2 _)) Tryz.underlying47 rfl (by kernel_rfl)) rfl
        ⟨ex0, _, n, true, rfl, res_put hlt (exAt0 _ _) ((hB _).set2 _) hn ((S3.trans (Stay.of_below (hb4.alloc hb4.size _))).trans (Stay.set _ _ _)) ?_ ?_⟩
      · intro p hp
        rw [HR.out] at hp
        cases hp
      · intro _
        rfl
    · have e1' : y.k = 1 := by simpa using e1
      have hm := name16 y.t hnm
      go_wp2_with (fail)
      ((with_reducible refine (hm _).mono ?_); rintro e w5 ⟨rfl, rfl⟩)
      have hnl := hk0 (by omega)
      clear hm
      cases e5 : isNm y.t
      · obtain ⟨d0, d1, d2, d3, df⟩ := alloc_set_cell4 (k := 2) g4 hne
        have hR := HR.out
        rw [if_neg (fun h => by rw [e5] at h; cases h.2)] at hR
        have HR := Lib.hid hR
        clear hR
        go_wp2_with (fail)
        refine bodyPost_ret (results_cell_row rfl _ _ w.heap.size 47 _ (0, 0) _ rfl (setA _ w.heap.size 47 _ _ _ _ _ _ _ _ (set_blk (alloc_blk g4 _) hne 2 _)) Tryz.underlying47 rfl (by kernel_rfl)) rfl
          ⟨ex0, _, n, true, rfl, res_put hlt (exAt0 _ _) ((hB _).set2 _) hn ((S3.trans (Stay.of_below (hb4.alloc hb4.size _))).trans (Stay.set _ _ _)) ?_ ?_⟩
        · intro p hp
          rw [HR.out] at hp
          cases hp
        · intro _
          rfl
      · obtain ⟨d0, d1, d2, d3, df⟩ := alloc_set_cell4 (k := 1) g4 hne
        have hR := HR.out
        rw [if_pos ⟨e1', e5⟩] at hR
        have HR := Lib.hid hR
        clear hR
        go_wp2_with (fail)
        refine bodyPost_ret (results_cell_row rfl _ _ w.heap.size 47 _ (0, 0) _ rfl (setA _ w.heap.size 47 _ _ _ _ _ _ _ _ (set_blk (alloc_blk g4 _) hne 1 _)) Tryz.underlying47 rfl (by kernel_rfl)) rfl
          ⟨.mk 2 0 y.t [], _, n + 1, false, rfl, res_put hlt (exAtN _ _ 2 0 y.t hnm) ((hB _).set1 _) (by omega) ((S3.trans (Stay.of_below (hb4.alloc hb4.size _))).trans (Stay.set _ _ _)) ?_ ?_⟩
        · intro p hp
          rw [HR.out] at hp
          obtain rfl := Option.some.inj hp
          exact ⟨rfl, rfl, rfl⟩
        · intro hp
          rw [HR.out] at hp
          cases hp
  · have e2' : y.k = 2 := by simpa using e2
    have e1 : (y.k == 1) = false := by rw [e2']; rfl
    cases e3 : decide (0 ≤ y.n)
    · have e3' := of_decide_eq_false e3
      obtain ⟨d0, d1, d2, d3, df⟩ := alloc_set_cell4 (k := 2) g4 hne
      have hR := HR.out
      rw [if_neg (fun h => e3' h.2.1), if_neg (fun h => by rw [e2'] at h; exact absurd h.1 (by decide))] at hR
      have HR := Lib.hid hR
      clear hR
      go_wp2_with (fail)
      refine bodyPost_ret (results_cell_row rfl _ _ w.heap.size 47 _ (0, 0) _ rfl (setA _ w.heap.size 47 _ _ _ _ _ _ _ _ (set_blk (alloc_blk g4 _) hne 2 _)) Tryz.underlying47 rfl (by kernel_rfl)) rfl
        ⟨ex0, _, n, true, rfl, res_put hlt (exAt0 _ _) ((hB _).set2 _) hn ((S3.trans (Stay.of_below (hb4.alloc hb4.size _))).trans (Stay.set _ _ _)) ?_ ?_⟩
      · intro p hp
        rw [HR.out] at hp
        cases hp
      · intro _
        rfl
    · have e3' := of_decide_eq_true e3
      cases e4 : decide (y.n < 4294967296)
      · have e4' := of_decide_eq_false e4
        obtain ⟨d0, d1, d2, d3, df⟩ := alloc_set_cell4 (k := 2) g4 hne
        have hR := HR.out
        rw [if_neg (fun h => e4' h.2.2), if_neg (fun h => by rw [e2'] at h; exact absurd h.1 (by decide))] at hR
        have HR := Lib.hid hR
        clear hR
        go_wp2_with (fail)
        refine bodyPost_ret (results_cell_row rfl _ _ w.heap.size 47 _ (0, 0) _ rfl (setA _ w.heap.size 47 _ _ _ _ _ _ _ _ (set_blk (alloc_blk g4 _) hne 2 _)) Tryz.underlying47 rfl (by kernel_rfl)) rfl
          ⟨ex0, _, n, true, rfl, res_put hlt (exAt0 _ _) ((hB _).set2 _) hn ((S3.trans (Stay.of_below (hb4.alloc hb4.size _))).trans (Stay.set _ _ _)) ?_ ?_⟩
        · intro p hp
          rw [HR.out] at hp
          cases hp
        · intro _
          rfl
      · have e4' := of_decide_eq_true e4
        have hnl := hk0 (by omega)
        obtain ⟨d0, d1, d2, d3, df⟩ := alloc_set_cell4 (k := 1) g4 hne
        have hR := HR.out
        rw [if_pos ⟨e2', e3', e4'⟩] at hR
        have HR := Lib.hid hR
        clear hR
        go_wp2_with (fail)
        refine bodyPost_ret (results_cell_row rfl _ _ w.heap.size 47 _ (0, 0) _ rfl (setA _ w.heap.size 47 _ _ _ _ _ _ _ _ (set_blk (alloc_blk g4 _) hne 1 _)) Tryz.underlying47 rfl (by kernel_rfl)) rfl
          ⟨.mk 1 y.n [] [], _, n + 1, false, rfl, res_put hlt (exAtN _ _ 1 y.n [] (by simp)) ((hB _).set1 _) (by omega) ((S3.trans (Stay.of_below (hb4.alloc hb4.size _))).trans (Stay.set _ _ _)) ?_ ?_⟩
        · intro p hp
          rw [HR.out] at hp
          obtain rfl := Option.some.inj hp
          exact ⟨rfl, rfl, rfl⟩
        · intro hp
          rw [HR.out] at hp
          cases hp
end Go.Proofs.YtpdkpkabdkefcaaGreatDoor
